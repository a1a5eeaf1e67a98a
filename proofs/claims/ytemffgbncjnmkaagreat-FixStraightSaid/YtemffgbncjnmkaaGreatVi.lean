import Derived.Test.YtemffgbncjnmkaaGreatVqm
set_option linter.unusedVariables false
set_option linter.unusedSectionVars false
set_option linter.unusedSimpArgs false
namespace Go.Va
open Go Go.Sh
variable [Vb]
variable {P:Program}
theorem QF3 {t:TypeId}{d:TypeDesc}(hu:P.underlying t=some d){x:Value}{K:Value→Prop}(hd:∀ms,d≠.interface ms)(hk:K (.iface t x)):QF4 P t x K:=by
 refine Sp.of (v:=.iface t x) (fun w=>QA ?_) hk
 simp only[Instr.makeInterface]
 rw[Sem.run_bind,run_underlying hu,Result.andThen_ok]
 cases hdd:d with
 | interface ms=>exact absurd hdd (hd ms)
 | _=>rfl
theorem QE8 {a xt:TypeId}{d:TypeDesc}(hu:P.underlying a=some d){x:Value}{K:Value→Prop}(hd:∀ms,d≠.interface ms)(hk:K (.tuple #[x,.bool true])):QyI P (.iface a x) xt a true K:=by
 refine Sp.of (v:=.tuple #[x,.bool true]) (fun w=>QA ?_) hk
 simp only[Instr.typeAssert]
 rw[Sem.run_bind,run_underlying hu,Result.andThen_ok]
 cases hdd:d with
 | interface ms=>exact absurd hdd (hd ms)
 | _=>simp
theorem Qxl {t:TypeId}{parts:Array (Nat×Value)}{cells:Array Value}{K:Value→Prop}(h:P.built t parts.toList=some cells)(hk:K (.agg cells)):QrZ P t parts K:=
 Sp.of (fun w=>QA (run_build w t parts cells h)) hk
theorem Qy5 {E:Env}{i off offz len:Nat}{cap:FCap}{v:Value}(h:den E (.sl i off offz len cap)=some v)(hl:0<len):∃a c,E.p i=some a∧v=.slice (some (a.add off)) len c:=by
 obtain⟨a,c,hp,hv,hc⟩:=QeE h
 cases cap with
 | lit d=>exact⟨a,c,hp,hv⟩
 | hid j=>
  simp only at hc hv
  rw[if_neg (by omega)] at hv
  exact⟨a,c,hp,hv⟩
theorem QKu {E:Env}{t:TypeId}{fs:Array Field}{i:Nat}{f:Field}{k:Nat}{b:Bool}(hu:P.underlying t=some (.struct fs))(hf:fs[i]?=some f)(hk:szO P f.type=some k)(hb:agO P f.type=some b){x y:FV}{v:Value}
  (hv:den E x=some v) (hx:fldF f.offset k b x=some y):QBR P t v i fun v=>den E y=some v:=by
 cases x<;>try (simp[fldF] at hx;done)
 rename_i cs
 simp only[den] at hv
 cases hd:denL E cs with
 | none=>rw[hd] at hv;cases hv
 | some vs=>
  rw[hd] at hv
  simp only at hv
  by_cases ho:cs.all oneF=true
  ·rw[if_pos ho] at hv;simp only[Option.some.injEq] at hv;subst hv
   simp only[fldF] at hx
   have base:∀z,(∀w,(Go.part f.type vs.toArray f.offset).run P w=.ok z w)→den E y=some z→QBR P t (.agg vs.toArray) i fun v=>den E y=some v:=fun z hz hy=>
    ⟨z,fun w=>QA (by simp only[Instr.field];rw[Sem.run_bind,run_underlying hu,Result.andThen_ok];simp only[hf,asAgg,pure_bind];exact hz w),hy⟩
   haveI ia:=Qjr hb
   haveI is:=QbA hk
   cases b with
   | true=>
    simp only at hx
    cases ht:Qbb k (Qaz f.offset cs) with
    | none=>rw[ht] at hx;cases hx
    | some l=>
     rw[ht] at hx;simp only[Option.some.injEq] at hx;subst hx
     obtain⟨h5,h6⟩:=Qcd ht
     rw[Qbo] at h5 h6
     have h7:=QfV k (QeM f.offset hd)
     rw[←h5] at h7
     refine base (.agg ((vs.drop f.offset).take k).toArray) (fun w=>?_) (by simp only[den,h7];rw[if_pos (by rw[h5];exact QmX ho _ _)])
     simp only[Go.part]
     rw[Sem.run_bind,ia.run,Result.andThen_ok,if_pos rfl,Sem.run_bind,is.run,Result.andThen_ok]
     have:vs.toArray.extract f.offset (f.offset+k)=((vs.drop f.offset).take k).toArray:=by
      apply Array.ext'
      simp
     rw[this];rfl
   | false=>
    simp only at hx
    obtain⟨u,h5,h6⟩:=Qji hd (QeW hx)
    refine base u (fun w=>?_) h6
    simp only[Go.part]
    rw[Sem.run_bind,ia.run,Result.andThen_ok,if_neg (by simp)]
    have:vs.toArray[f.offset]?=some u:=by simpa using h5
    rw[this];rfl
  ·rw[if_neg ho] at hv;cases hv
theorem QHe {E:Env}{l:List Nat}{lo hi:Option Nat}{r:FV}(hl:Q0 l=true)(h:QwZ l lo hi=some r) :
  gD hi l.length≤l.length∧gD lo 0≤gD hi l.length∧den E r=some (str (((l.take (gD hi l.length)).drop (gD lo 0)).map UInt8.ofNat)):=by
 have hb:∀m n,Q0 ((l.take m).drop n)=true:=fun m n=>by
  simp only[Q0,List.all_eq_true] at *
  exact fun x hx=>hl x (List.mem_of_mem_take (List.mem_of_mem_drop hx))
 cases hi with
 | none=>
  cases lo with
  | none=>
   simp only[QwZ,Option.some.injEq] at h;subst h
   simp only[QeC,den,hl,if_true,List.take_length,List.drop_zero]
   exact⟨Nat.le_refl _,Nat.zero_le _,trivial⟩
  | some a=>
   simp only[QwZ] at h
   cases hc:Nat.ble a l.length with
   | false=>rw[hc] at h;cases h
   | true=>
    rw[hc] at h;simp only[cond_true,Option.some.injEq] at h;subst h
    refine⟨Nat.le_refl _,Qag hc,?_⟩
    have:=hb l.length a
    simp only[List.take_length] at this
    simp only[QeC,Qdg,den,Qbo,List.take_length,this,if_true]
 | some n=>
  simp only[QwZ] at h
  cases ht:Qbb n l with
  | none=>rw[ht] at h;cases h
  | some t=>
   rw[ht] at h
   simp only at h
   obtain⟨h1,h2⟩:=Qcd ht
   cases hc:Nat.ble (gD lo 0) n with
   | false=>rw[hc] at h;cases h
   | true=>
    rw[hc] at h;simp only[cond_true,Option.some.injEq] at h;subst h
    refine⟨h2,Qag hc,?_⟩
    subst h1
    have:=hb n (gD lo 0)
    simp only[Qdg,den,Qbo,this,if_true]
theorem QGu:∀ {l:List SB}{m:List Nat},knS l=some m→l=ksb m
 | [],m,h=>by simp only[knS,Option.some.injEq] at h;subst h;rfl
 | .k n::r,m,h=>by
  simp only[knS] at h
  cases hr:knS r with
  | none=>rw[hr] at h;cases h
  | some l=>rw[hr] at h;simp only[Option.some.injEq] at h;subst h;rw[QGu hr];rfl
 | .v n _ _::r,m,h=>by simp[knS] at h
theorem QD9 {E:Env}{l:List SB}(h:Qbq l=true):den E (mkS l)=some (str (l.map sbU)):=by
 unfold mkS
 cases hk:knS l with
 | none=>simp only[den];rw[if_pos h]
 | some m=>
  have e:=QGu hk
  subst e
  have hb:Q0 m=true:=by
   simp only[Qbq,ksb,List.all_map] at h
   exact h
  simp only[den]
  rw[if_pos hb,QyJ]
theorem QHd {E:Env}{l:List SB}{lo hi:Option Nat}{r:FV}(hl:Qbq l=true)(h:QwY l lo hi=some r) :
  gD hi l.length≤l.length∧gD lo 0≤gD hi l.length∧den E r=some (str (((l.take (gD hi l.length)).drop (gD lo 0)).map sbU)):=by
 have hb:∀m n,Qbq ((l.take m).drop n)=true:=fun m n=>by
  simp only[Qbq,List.all_eq_true] at *
  exact fun x hx=>hl x (List.mem_of_mem_take (List.mem_of_mem_drop hx))
 cases hi with
 | none=>
  cases lo with
  | none=>
   simp only[QwY,Option.some.injEq] at h;subst h
   simp only[QeC,den,hl,if_true,List.take_length,List.drop_zero]
   exact⟨Nat.le_refl _,Nat.zero_le _,trivial⟩
  | some a=>
   simp only[QwY] at h
   cases hc:Nat.ble a l.length with
   | false=>rw[hc] at h;cases h
   | true=>
    rw[hc] at h;simp only[cond_true,Option.some.injEq] at h;subst h
    refine⟨Nat.le_refl _,Qag hc,?_⟩
    have:=hb l.length a
    simp only[List.take_length] at this
    rw[QeC,Qdg,Qbo,QD9 this,List.take_length]
 | some n=>
  simp only[QwY] at h
  cases ht:Qbb n l with
  | none=>rw[ht] at h;cases h
  | some t=>
   rw[ht] at h
   simp only at h
   obtain⟨h1,h2⟩:=Qcd ht
   cases hc:Nat.ble (gD lo 0) n with
   | false=>rw[hc] at h;cases h
   | true=>
    rw[hc] at h;simp only[cond_true,Option.some.injEq] at h;subst h
    refine⟨h2,Qag hc,?_⟩
    subst h1
    have:=hb n (gD lo 0)
    rw[Qdg,Qbo,QD9 this]
theorem Qu0 (l:List UInt8)(a b:Nat):(Value.string ((⟨l.toArray⟩:ByteArray).extract a b))=str ((l.take b).drop a):=by
 simp only[str]
 congr 1
 apply ByteArray.ext
 apply Array.ext'
 simp[ByteArray.data_extract,List.drop_take]
theorem Qyp {t:TypeId}(hu:P.underlying t=some .string){l:List UInt8}{lo hi:Option Nat}{lo' hi':Option Value}(h11:OI lo lo')(h12:OI hi hi')(h8:gD hi l.length≤l.length)(h9:gD lo 0≤gD hi l.length)(w:World) :
  (Instr.sliceAt t (str l) lo' hi' none).run P w=.ok (str ((l.take (gD hi l.length)).drop (gD lo 0))) w:=by
 simp only[str,Instr.sliceAt]
 rw[Sem.run_bind,run_underlying hu,Result.andThen_ok]
 simp only[Instr.slice]
 rw[Sem.run_bind,run_underlying hu,Result.andThen_ok]
 have hsz:(⟨l.toArray⟩:ByteArray).size=l.length:=List.size_toArray
 have hbd:=Qko (P:=P) (b:=false) (len:=l.length) (cap:=l.length) (mx:=none) (mx':=none) h11 h12 rfl (.inl rfl) (Nat.le_refl _) (.inr h8) (.inr h9) w
 simp only[Option.isSome_none,Bool.false_eq_true,if_false,hsz]
 first
  | (rw[Sem.run_bind,hbd,Result.andThen_ok])
  | (simp only[pure_bind];rw[Sem.run_bind,hbd,Result.andThen_ok])
 simp only[Sem.run_pure]
 rw[Qu0]
 rfl
theorem QKQ {E:Env}{t:TypeId}{ps:Array (Nat×Operand)}{ρ:Operand→Value}{fr:Fr}{l:List (Nat×Opd)}{pl:List (Nat×Nat)}{q:List (Nat×FV)}{z cs:List FV}(hρ:AgO E fr ρ)(hl:c1P ps.toList=some l)(hq:evP fr l=some q)
  (hz:zrO P t=some z) (hf:Qc4 z pl q=some cs)
  (hpl:(∃fs l0,P.underlying t=some (.struct fs)∧plT P fs.toList=some l0∧plsL l0 ps.toList=some pl)∨∃n e k,P.underlying t=some (.array n e)∧szO P e=some k∧pl=plsK k ps.toList) :
  QrZ P t (prs ρ ps) fun v=>den E (.agg cs)=some v:=by
 obtain⟨i,zv,h1,h2,h3,h4,h5,h6⟩:=Qe5 hz
 obtain⟨h7,h8⟩:=hρ.pairs hl hq
 have hzd:=Qcf E h3
 have key:∀place:Nat→Option (Nat×Nat),(∀(j:Nat) (i:Nat) (q:Nat×Nat),(ps.toList.map (·.1))[j]?=some i→pl[j]?=some q→place i=some q) →
   ∃ws,Instr.fill place zv.cells (prs ρ ps).toList=some ws∧den E (.agg cs)=some (.agg ws):=fun place hp=>by
  obtain⟨ws,h9,h10,h11⟩:=Qv8 (place:=place) hf hzd h4 h8 rfl (Qzu h7 hp)
  refine⟨ws.toArray,?_,by simp only[den,h10];rw[if_pos h11]⟩
  have e1:zv.cells.toList.toArray=zv.cells:=by simp
  rw[e1,Qrs h7] at h9
  have e2:(prs ρ ps).toList=ps.toList.map fun p=>(p.1,ρ p.2):=by simp[prs]
  rw[e2];exact h9
 rcases hpl with⟨fs,l0,hu,hl0,hpl⟩ | ⟨n,e,k,hu,hk,rfl⟩
 ·obtain⟨ws,h9,h10⟩:=key (fun i=>l0.toArray[i]?) fun j i q hj hq=>by simpa using QDZ hpl j i q hj hq
  refine Qxl (cells:=ws) ?_ h10
  simp only[Program.built,h1,hu,h2,QFV hl0]
  exact h9
 ·unfold szO at hk
  cases hi:P.info? e with
  | none=>rw[hi] at hk;cases hk
  | some ie=>
   rw[hi] at hk;simp only[Option.some.injEq] at hk;subst hk
   obtain⟨ws,h9,h10⟩:=key (fun i=>some (i * ie.size,ie.size)) fun j i q hj hq=>by rw[Qyt j i q hj hq]
   refine Qxl (cells:=ws) ?_ h10
   simp only[Program.built,h1,hu,h2,hi]
   exact h9
theorem Qabl (b:Bool)(m n:Int):imx b m n=mm b m n:=by
 cases b with
 | true=>
  simp only[imx,mm]
  rw[Qd5,Int.max_def]
  by_cases hl:m<n
  ·simp[hl,show m≤n by omega]
  ·by_cases he:m≤n
   ·simp[hl,he];omega
   ·simp[hl,he]
 | false=>
  simp only[imx,mm]
  rw[Qd5,Int.min_def]
  by_cases hl:n<m
  ·simp[hl,show ¬m≤n by omega]
  ·simp[hl,show m≤n by omega]
theorem Qab1 {E:Env}(mx:Bool){k:IntKind}{a b:SE}{la ha lb hb:Int}(g1:la≤a.ev∧a.ev≤ha)(g2:lb≤b.ev∧b.ev≤hb):den E (mnZ mx k a la ha b lb hb)=some (.int k (mm mx a.ev b.ev)):=by
 cases mx with
 | true=>
  simp only[mnZ]
  cases h1:ile hb la||eqE a b with
  | true=>
   simp only[cond_true]
   rw[Qer g1.1 g1.2];simp only[mm]
   rcases ileE h1 with e | e
   ·rw[Int.max_eq_left (by omega)]
   ·rw[e,Int.max_self]
  | false=>
   simp only[cond_false]
   cases h2:ile ha lb with
   | true=>
    have:=Qbc h2
    simp only[cond_true]
    rw[Qer g2.1 g2.2];simp only[mm];rw[Int.max_eq_right (by omega)]
   | false=>
    simp only[cond_false,den,Qabl]
    exact if_pos (show mm true la lb≤max a.ev b.ev∧max a.ev b.ev≤mm true ha hb by simp only[mm];omega)
 | false=>
  simp only[mnZ]
  cases h1:ile ha lb||eqE a b with
  | true=>
   simp only[cond_true]
   rw[Qer g1.1 g1.2];simp only[mm]
   rcases ileE h1 with e | e
   ·rw[Int.min_eq_left (by omega)]
   ·rw[e,Int.min_self]
  | false=>
   simp only[cond_false]
   cases h2:ile hb la with
   | true=>
    have:=Qbc h2
    simp only[cond_true]
    rw[Qer g2.1 g2.2];simp only[mm];rw[Int.min_eq_right (by omega)]
   | false=>
    simp only[cond_false,den,Qabl]
    exact if_pos (show mm false la lb≤min a.ev b.ev∧min a.ev b.ev≤mm false ha hb by simp only[mm];omega)
theorem QabM {E:Env}{ρ:Operand→Value}{fr:Fr}{th:Tr TO}{m:MOp}{x:FV}(b:Bool){op:Oper}{args:Array Operand}{ats:Array TypeId}{D:Heap→Prop}(hρ:AgO E fr ρ)
  (hc:∃y z,args.toList=[y,z]∧(c1 y).bind (fun y=>(c1 z).bind fun z=>some (match b with | true=>MOp.mx y z | false=>MOp.mn y z))=some m) (hx:evQ0 fr th m=some x)
  (ho:op.op=.call ⟨.builtin (match b with | true=>.max | false=>.min),args,ats⟩):opQ P ρ op D fun v=>den E x=some v:=by
 obtain⟨y,z,hal,hc⟩:=hc
 obtain⟨y',h1,hc⟩:=bind_some hc
 obtain⟨z',h2,hc⟩:=bind_some hc
 simp only[Option.some.injEq] at hc
 have hx':o2 fr y' z' (mnF b)=some x:=by
  cases b<;>(simp only at hc;subst hc;exact hx)
 obtain⟨v,w,h3,h4,h5⟩:=QdI hx'
 have h6:=hρ y y' v h1 h3
 have h7:=hρ z z' w h2 h4
 have hres:∃k c d r,ρ y=.int k c∧(∃k',ρ z=.int k' d)∧den E x=some (.int k r)∧r=mm b c d:=by
  unfold mnF at h5
  cases hi:zbn v with
  | none=>rw[hi] at h5;cases h5
  | some p=>
   obtain⟨k,c,la,ha⟩:=p
   cases hj:zbn w with
   | none=>rw[hi,hj] at h5;cases h5
   | some q=>
    obtain⟨k',d,lb,hb⟩:=q
    rw[hi,hj] at h5
    simp only[Option.some.injEq] at h5;subst h5
    obtain⟨g1,g2⟩:=Qcl hi h6
    obtain⟨g3,g4⟩:=Qcl hj h7
    exact⟨k,_,_,_,g1,⟨k',g3⟩,Qab1 b g2 g4,rfl⟩
 obtain⟨k,c,d,r,hy,⟨k',hz⟩,hd,hr⟩:=hres
 have harr:arr ρ args=#[.int k c,.int k' d]:=by simp[arr,hal,hy,hz]
 subst hr
 unfold opQ
 rw[ho]
 clear ho hc hx' h5 hx
 cases b
 ·show Sp P (nv (Builtin.min_ ats op.type (arr ρ args))) _
  rw[harr]
  refine Sp.of (v:=.int k (mm false c d)) (fun w=>QA ?_) hd
  have e:(if d<c then d else c)=mm false c d:=by simp only[mm];rw[Int.min_def];split<;>split<;>omega
  rw[←e];simp[Builtin.min_,Builtin.min2]
 ·show Sp P (nv (Builtin.max_ ats op.type (arr ρ args))) _
  rw[harr]
  refine Sp.of (v:=.int k (mm true c d)) (fun w=>QA ?_) hd
  have e:(if d > c then d else c)=mm true c d:=by simp only[mm];rw[Int.max_def];split<;>split<;>omega
  rw[←e];simp[Builtin.max_,Builtin.max2]
theorem QJf {E:Env}{th:TH}{h0 h:Heap}{L:List HP}{ρ:Operand→Value}{fr:Fr}{o:Oper}{m:MOp}{x:FV}(r:Rep E th h0 h L)(hρ:AgO E fr ρ)(hc:cop P o=some m)(hx:evQ0 fr th.t m=some x) :
  Sq P (Eq h) (execOp ρ o) fun v=>den E x=some v:=by
 have mv:∀y,o.op=.move y∨o.op=.assign y→(c1 y).bind (fun x=>some (MOp.mov x))=some m→Sq P (Eq h) (execOp ρ o) fun v=>den E x=some v:=fun y ho hm=>by
  obtain⟨z,h1,h2⟩:=bind_some hm
  simp only[Option.some.injEq] at h2;subst h2
  exact⟨ρ y,fun w _=>by rcases ho with ho | ho<;>simp[execOp,ho],hρ y z x h1 hx⟩
 have Q:opQ P ρ o (Eq h) (fun v=>den E x=some v)→Sq P (Eq h) (execOp ρ o) fun v=>den E x=some v:=Qnu
 obtain⟨dst,op,type,pos,after,guard⟩:=o
 cases op<;>simp only[cop] at hc<;>try (cases hc;done)
 case move y=>exact mv y (.inl rfl) hc
 case assign y=>exact mv y (.inr rfl) hc
 case pick c a b=>
  refine Q ?_
  obtain⟨c',h1,hc⟩:=bind_some hc
  obtain⟨a',h2,hc⟩:=bind_some hc
  obtain⟨b',h3,hc⟩:=bind_some hc
  simp only[Option.some.injEq] at hc;subst hc
  obtain⟨cv,h4,h5⟩:=Qat hx
  have h6:=hρ c c' cv h1 h4
  show QE2 P (ρ c) (ρ a) (ρ b) _
  cases cv<;>try (cases h5;done)
  rename_i bb
  simp only[den,Option.some.injEq] at h6
  rw[←h6]
  refine QE1.2 ?_
  cases bb with
  | true=>exact hρ a a' x h2 h5
  | false=>exact hρ b b' x h3 h5
 case nilCheck y=>
  refine Q ?_
  obtain⟨y',h1,hc⟩:=bind_some hc
  simp only[Option.some.injEq] at hc;subst hc
  obtain⟨v,h4,h5⟩:=Qat hx
  have h6:=hρ y y' v h1 h4
  cases v<;>try (cases h5;done)
  simp only[Option.some.injEq] at h5;subst h5
  obtain⟨a,ha,hv⟩:=Qca h6
  show oNil P (ρ y) _
  rw[hv]
  exact QpR.2 (by rw[←hv];exact h6)
 case binOp op t y z yt=>
  refine Q ?_
  obtain⟨d,hd,hc⟩:=bind_some hc
  obtain⟨y',h1,hc⟩:=bind_some hc
  obtain⟨z',h2,hc⟩:=bind_some hc
  show oBin P op t y z (ρ y) (ρ z) _
  by_cases hn:numT d=true
  ·rw[if_pos hn] at hc;simp only[Option.some.injEq] at hc;subst hc
   obtain⟨v,w,h3,h4,h5⟩:=QdI hx
   exact QJG (hρ y y' v h1 h3) (hρ z z' w h2 h4) h5
  ·rw[if_neg hn] at hc
   by_cases hst:stT d=true
   ·rw[if_pos hst] at hc
    split at hc
    ·cases hc
    ·rename_i hgd
     obtain⟨e,he,hc⟩:=bind_some hc
     have fin:∀neg:Bool,m=.eqs neg e y' z'→oBin P (match neg with | true=>.neq | false=>.eql) t y z (ρ y) (ρ z) fun v=>den E x=some v:=fun neg hm=>by
      subst hm
      obtain⟨v,w,h3,h4,h5⟩:=QdI hx
      cases hq:eqDF e v w with
      | none=>rw[hq] at h5;cases h5
      | some rr=>
       rw[hq] at h5
       have hgd':P.eqGuardType P.depth t=false:=by simpa using hgd
       have hst':∃fs,P.underlying t=some (.struct fs):=by
        cases d<;>first | (cases hst;done) | exact⟨_,hd⟩
       cases neg with
       | true=>exact Qabm (neg:=true) hgd' hst' he (hρ y y' v h1 h3) (hρ z z' w h2 h4) hq h5
       | false=>exact Qabm (neg:=false) hgd' hst' he (hρ y y' v h1 h3) (hρ z z' w h2 h4) hq h5
     cases op<;>simp only at hc<;>try (cases hc;done)
     ·simp only[Option.some.injEq] at hc;exact fin false hc.symm
     ·simp only[Option.some.injEq] at hc;exact fin true hc.symm
   rw[if_neg hst] at hc
   obtain⟨kd,hk,hc⟩:=bind_some hc
   have fin:∀neg:Bool,m=.eqb kd neg y' z'→oBin P (match neg with | true=>.neq | false=>.eql) t y z (ρ y) (ρ z) fun v=>den E x=some v:=fun neg hm=>by
    subst hm
    obtain⟨v,w,h3,h4,h5⟩:=QdI hx
    cases he:eqbF kd v w with
    | none=>rw[he] at h5;cases h5
    | some rr=>
     rw[he] at h5;simp only[Option.some.injEq] at h5;subst h5
     obtain⟨u,hu1,hu2⟩:=QGH (neg:=neg) (x:=y) (y:=z) hd hk (hρ y y' v h1 h3) (hρ z z' w h2 h4) he
     exact⟨u,hu1,by rw[hu2];cases neg<;>rfl⟩
   cases op<;>simp only at hc<;>try (cases hc;done)
   ·simp only[Option.some.injEq] at hc;exact fin false hc.symm
   ·simp only[Option.some.injEq] at hc;exact fin true hc.symm
 case unOp op t y=>
  refine Q ?_
  obtain⟨y',h1,hc⟩:=bind_some hc
  show oUn P op (ρ y) _
  cases op<;>simp only at hc<;>try (cases hc;done)
  ·simp only[Option.some.injEq] at hc;subst hc
   obtain⟨v,h4,h5⟩:=Qat hx
   have h6:=hρ y y' v h1 h4
   cases v<;>try (cases h5;done)
   ·simp only[Option.some.injEq] at h5;subst h5
    simp only[den,Option.some.injEq] at h6
    rw[←h6,QD3];simp only[den,Qtj];rfl
   ·simp only[Option.some.injEq] at h5;subst h5
    obtain⟨g1,g2⟩:=QmN h6
    rename_i k n lo hi
    rw[g2,QD3]
    have e:(0:Int) - n.ev=(sSub (.c (.ofNat 0)) n).ev:=(QlV (.c (.ofNat 0)) n).symm
    rw[e]
    exact Qed (by rw[QlV];exact (show 0 - hi≤0 - n.ev by omega)) (by rw[QlV];exact (show 0 - n.ev≤0 - lo by omega))
  ·simp only[Option.some.injEq] at hc;subst hc
   obtain⟨v,h4,h5⟩:=Qat hx
   have h6:=hρ y y' v h1 h4
   cases v<;>simp only[notF] at h5<;>try (cases h5;done)
   ·simp only[Option.some.injEq] at h5;subst h5
    simp only[den,Option.some.injEq] at h6
    rw[←h6,QD2];simp only[den]
   ·simp only[Option.some.injEq] at h5;subst h5
    simp only[den,Option.some.injEq] at h6
    rw[←h6,QD2];simp only[den,SC.ev]
 case convert s d y=>
  refine Q ?_
  obtain⟨y',h1,hc⟩:=bind_some hc
  show QE7 P s d (ρ y) _
  cases hs:P.underlying s with
  | none=>rw[hs] at hc;simp at hc
  | some sd=>
   cases hd:P.underlying d with
   | none=>rw[hs,hd] at hc;cases sd<;>simp at hc
   | some dd=>
    rw[hs,hd] at hc
    cases sd<;>try (simp at hc;done)
    cases dd<;>try (simp at hc;done)
    simp only[Option.some.injEq] at hc;subst hc
    haveI:Und P s _:=⟨hs⟩
    haveI:Und P d _:=⟨hd⟩
    obtain⟨v,h4,h5⟩:=Qat hx
    have h6:=hρ y y' v h1 h4
    cases v<;>try (cases h5;done)
    ·simp only[Option.some.injEq] at h5;subst h5
     simp only[den,Option.some.injEq] at h6
     rw[←h6,Qzz];simp only[den,Qtj]
    ·simp only[Option.some.injEq] at h5;subst h5
     obtain⟨g1,g2⟩:=QmN h6
     rw[g2,Qzz]
     exact Qed g1.1 g1.2
 case typeAssert y xt a ok=>
  refine Q ?_
  obtain⟨d,hd,hc⟩:=bind_some hc
  obtain⟨y',h1,hc⟩:=bind_some hc
  by_cases hi:QxF d=true
  ·rw[if_pos hi] at hc;cases hc
  ·rw[if_neg hi] at hc
   cases ok with
   | false=>cases hc
   | true=>
    simp only[Option.some.injEq] at hc;subst hc
    obtain⟨v,h4,h5⟩:=Qat hx
    cases v<;>try (cases h5;done)
    rename_i t' v
    simp only[tasF] at h5
    cases hb:Nat.beq t' a with
    | false=>rw[hb] at h5;cases h5
    | true=>
     rw[hb] at h5;simp only[cond_true,Option.some.injEq] at h5;subst h5
     have:=Qm hb;subst this
     have h6:=hρ y y' _ h1 h4
     simp only[den] at h6
     cases hv:den E v with
     | none=>rw[hv] at h6;cases h6
     | some u=>
      rw[hv] at h6;simp only[Option.some.injEq] at h6
      show QyI P (ρ y) xt t' true _
      rw[←h6]
      exact QE8 hd (fun ms e=>hi (by rw[e];rfl)) (by simp only[den,denL,hv])
 case makeInterface t y=>
  refine Q ?_
  obtain⟨d,hd,hc⟩:=bind_some hc
  obtain⟨y',h1,hc⟩:=bind_some hc
  by_cases hi:QxF d=true
  ·rw[if_pos hi] at hc;cases hc
  ·rw[if_neg hi] at hc;simp only[Option.some.injEq] at hc;subst hc
   obtain⟨v,h4,h5⟩:=Qat hx
   simp only[Option.some.injEq] at h5;subst h5
   exact QF3 hd (fun ms e=>hi (by rw[e];rfl)) (by simp only[den,hρ y y' v h1 h4])
 case makeFunc f a b=>
  refine Q ?_
  obtain⟨a',h1,hc⟩:=bind_some hc
  obtain⟨b',h2,hc⟩:=bind_some hc
  simp only[Option.some.injEq] at hc;subst hc
  simp only[evQ0,qMkf] at hx
  cases ha:evL fr a' with
  | none=>rw[ha] at hx;cases hx
  | some u=>
   cases hb:evL fr b' with
   | none=>rw[ha,hb] at hx;cases hx
   | some v=>
    rw[ha,hb] at hx;simp only[Option.some.injEq] at hx;subst hx
    show QE3 P f (arr ρ a) (arr ρ b) _
    rw[QF5]
    simp only[den,hρ.list h1 ha,hρ.list h2 hb,arr]
 case slice t y lo hi mx=>
  refine Q ?_
  obtain⟨y',h1,hc⟩:=bind_some hc
  obtain⟨lo',h2,hc⟩:=bind_some hc
  obtain⟨hi',h3,hc⟩:=bind_some hc
  obtain⟨mx',h4,hc⟩:=bind_some hc
  have eo:∀z:Option Operand,oarr ρ z=z.map ρ:=fun z=>by cases z<;>rfl
  show QfD P t (ρ y) (oarr ρ lo) (oarr ρ hi) (oarr ρ mx) _
  rw[eo,eo,eo]
  cases hu:P.underlying t with
  | none=>rw[hu] at hc;cases hc
  | some d=>
   rw[hu] at hc
   cases d<;>try (cases hc;done)
   case string=>
    cases mx' with
    | some _=>cases hc
    | none=>
     simp only[Option.some.injEq] at hc;subst hc
     have hmx:mx=none:=by
      cases mx with
      | none=>rfl
      | some z=>simp only[c1O] at h4;cases hz:c1 z<;>rw[hz] at h4<;>simp at h4
     subst hmx
     obtain⟨v,h5,h6⟩:=Qat hx
     have h7:=hρ y y' v h1 h5
     cases v<;>try (cases h6;done)
     ·rename_i l
      simp only at h6
      cases hlo:evI fr lo' with
      | none=>rw[hlo] at h6;cases h6
      | some a=>
       cases hhi:evI fr hi' with
       | none=>rw[hlo,hhi] at h6;cases h6
       | some b=>
        rw[hlo,hhi] at h6
        simp only at h6
        obtain⟨hl,hv⟩:=QmO h7
        obtain⟨h8,h9,h10⟩:=QHd (E:=E) hl h6
        refine⟨_,fun w=>QA ?_,h10⟩
        rw[hv]
        have:=Qyp (P:=P) hu (l:=l.map sbU) (QgF hρ h2 hlo) (QgF hρ h3 hhi) (by simpa using h8) (by simpa using h9) w
        simp only[List.length_map,←List.map_take,←List.map_drop] at this
        exact this
     rename_i l
     simp only at h6
     cases hlo:evI fr lo' with
     | none=>rw[hlo] at h6;cases h6
     | some a=>
      cases hhi:evI fr hi' with
      | none=>rw[hlo,hhi] at h6;cases h6
      | some b=>
       rw[hlo,hhi] at h6
       simp only at h6
       obtain⟨hl,hv⟩:=Qcr h7
       obtain⟨h8,h9,h10⟩:=QHe (E:=E) hl h6
       have h11:=QgF hρ h2 hlo
       have h12:=QgF hρ h3 hhi
       refine⟨_,fun w=>QA ?_,h10⟩
       rw[hv]
       simp only[str,Instr.sliceAt]
       rw[Sem.run_bind,run_underlying hu,Result.andThen_ok]
       simp only[Instr.slice]
       rw[Sem.run_bind,run_underlying hu,Result.andThen_ok]
       have hsz:(⟨(l.map UInt8.ofNat).toArray⟩:ByteArray).size=l.length:=by
        have:(⟨(l.map UInt8.ofNat).toArray⟩:ByteArray).size=(l.map UInt8.ofNat).length:=List.size_toArray
        simpa using this
       have hbd:=Qko (P:=P) (b:=false) (len:=l.length) (cap:=l.length) (mx:=none) (mx':=none) h11 h12 rfl (.inl rfl) (Nat.le_refl _) (.inr h8) (.inr h9) w
       simp only[Option.map_none,Option.isSome_none,Bool.false_eq_true,if_false,hsz]
       first
        | (rw[Sem.run_bind,hbd,Result.andThen_ok])
        | (simp only[pure_bind];rw[Sem.run_bind,hbd,Result.andThen_ok])
       simp only[Sem.run_pure]
       rw[Qu0,List.map_drop,List.map_take]
       rfl
   case slice e=>
    obtain⟨k,hk,hc⟩:=bind_some hc
    simp only[Option.some.injEq] at hc;subst hc
    obtain⟨v,h5,h6⟩:=Qat hx
    have h7:=hρ y y' v h1 h5
    cases hlo:evI fr lo' with
    | none=>rw[hlo] at h6;cases h6
    | some a=>
     cases hhi:evI fr hi' with
     | none=>rw[hlo,hhi] at h6;cases h6
     | some b=>
      cases hmx:evI fr mx' with
      | none=>rw[hlo,hhi,hmx] at h6;cases h6
      | some c=>
       rw[hlo,hhi,hmx] at h6
       simp only at h6
       obtain⟨ad,len,cap,hv,g1,g2,g3,g4,g5⟩:=QDY h7 h6
       refine⟨_,fun w=>QA ?_,g5⟩
       rw[hv]
       simp only[Instr.sliceAt]
       rw[Sem.run_bind,run_underlying hu,Result.andThen_ok]
       simp only[Instr.slice]
       rw[Sem.run_bind,run_underlying hu,Result.andThen_ok]
       have hbd:=Qko (P:=P) (b:=true) (len:=len) (cap:=cap) (QgF hρ h2 hlo) (QgF hρ h3 hhi) (QgF hρ h4 hmx) g1 g2 (.inr g3) (.inr g4) w
       haveI is:=QbA hk
       simp only
       rw[Sem.run_bind,hbd,Result.andThen_ok]
       simp only
       rw[Sem.run_bind,is.run,Result.andThen_ok]
       rfl
   case array n e=>
    obtain⟨k,hk,hc⟩:=bind_some hc
    simp only[Option.some.injEq] at hc;subst hc
    obtain⟨v,h5,h6⟩:=Qat hx
    have h7:=hρ y y' v h1 h5
    cases v<;>try (cases h6;done)
    rename_i i off
    simp only at h6
    obtain⟨ad,hp,hv⟩:=Qca h7
    cases hlo:evI fr lo' with
    | none=>rw[hlo] at h6;cases h6
    | some a=>
     cases hhi:evI fr hi' with
     | none=>rw[hlo,hhi] at h6;cases h6
     | some b=>
      cases hmx:evI fr mx' with
      | none=>rw[hlo,hhi,hmx] at h6;cases h6
      | some c=>
       rw[hlo,hhi,hmx] at h6
       simp only at h6
       have h8:den E (.sl i off 0 n (.lit n))=some (.slice (some (ad.add off)) n n):=by simp only[den,hp]
       obtain⟨ad',len,cap,hv',g1,g2,g3,g4,g5⟩:=QDY h8 h6
       simp only[Value.slice.injEq] at hv'
       obtain⟨rfl,rfl,rfl⟩:=hv'
       refine⟨_,fun w=>QA ?_,g5⟩
       rw[hv]
       simp only[Instr.sliceAt]
       rw[Sem.run_bind,run_underlying hu,Result.andThen_ok]
       have hbd:=Qko (P:=P) (b:=false) (len:=n) (cap:=n) (QgF hρ h2 hlo) (QgF hρ h3 hhi) (QgF hρ h4 hmx) g1 g2 (.inr g3) (.inr g4) w
       haveI is:=QbA hk
       simp only[Instr.sureAddr,pure_bind]
       rw[Sem.run_bind,hbd,Result.andThen_ok]
       simp only
       rw[Sem.run_bind,is.run,Result.andThen_ok]
       simp only[sliced,Sem.run_pure,Option.map_some]
       split<;>rfl
 case fieldAddr t y i=>
  refine Q ?_
  obtain⟨y',h1,hc⟩:=bind_some hc
  cases hu:P.underlying t with
  | none=>rw[hu] at hc;cases hc
  | some d=>
   rw[hu] at hc
   cases d<;>try (cases hc;done)
   rename_i fs
   obtain⟨f,hf,hc⟩:=bind_some hc
   obtain⟨k,hk,hc⟩:=bind_some hc
   by_cases hk0:0<k
   ·rw[if_pos hk0] at hc;simp only[Option.some.injEq] at hc;subst hc
    obtain⟨v,h5,h6⟩:=Qat hx
    have h7:=hρ y y' v h1 h5
    cases v<;>try (cases h6;done)
    rename_i j off
    simp only[Option.some.injEq] at h6;subst h6
    obtain⟨a,hp,hv⟩:=Qca h7
    haveI is:=QbA hk
    refine⟨.pointer (some ((a.add off).add f.offset)),fun w _=>QA ?_,by simp only[den,hp,add_add]⟩
    rw[hv]
    simp only[Instr.fieldAt]
    rw[Sem.run_bind,run_underlying hu,Result.andThen_ok]
    simp only[hf,Instr.sureAddr,pure_bind,fieldPlace]
    have hs:=is.run w
    simp[hs,show k≠0 from by omega]
   ·rw[if_neg hk0] at hc;cases hc
 case field t y i=>
  refine Q ?_
  obtain⟨y',h1,hc⟩:=bind_some hc
  cases hu:P.underlying t with
  | none=>rw[hu] at hc;cases hc
  | some d=>
   rw[hu] at hc
   cases d<;>try (cases hc;done)
   rename_i fs
   obtain⟨f,hf,hc⟩:=bind_some hc
   obtain⟨k,hk,hc⟩:=bind_some hc
   obtain⟨b,hb,hc⟩:=bind_some hc
   simp only[Option.some.injEq] at hc;subst hc
   obtain⟨v,h5,h6⟩:=Qat hx
   exact QKu hu hf hk hb (hρ y y' v h1 h5) h6
 case indexAddr t y i=>
  refine Q ?_
  obtain⟨y',h1,hc⟩:=bind_some hc
  obtain⟨i',h2,hc⟩:=bind_some hc
  show oIdx P t (ρ y) (ρ i) _
  cases hu:P.underlying t with
  | none=>rw[hu] at hc;cases hc
  | some d=>
   rw[hu] at hc
   cases d<;>try (cases hc;done)
   case slice e=>
    obtain⟨k,hk,hc⟩:=bind_some hc
    simp only[Option.some.injEq] at hc;subst hc
    obtain⟨v,u,h3,h4,h5⟩:=QdI hx
    have h6:=hρ y y' v h1 h3
    have h7:=hρ i i' u h2 h4
    cases u<;>try (cases h5;done)
    rename_i ik n
    cases n<;>try (cases h5;done)
    rename_i n
    cases v<;>try (cases h5;done)
    rename_i id off offz len cap
    simp only[QId] at h5
    cases hb:Nat.blt n len with
    | false=>rw[hb] at h5;cases h5
    | true=>
     rw[hb] at h5;simp only[cond_true,Option.some.injEq] at h5;subst h5
     have hlt:=QaQ hb
     obtain⟨a,c,hp,hv⟩:=Qy5 h6 (by omega)
     simp only[den,Option.some.injEq] at h7
     haveI is:=QbA hk
     refine⟨.pointer (some ((a.add off).add (n * k))),fun w=>QA ?_,by simp only[den,hp,add_add]⟩
     rw[hv,←h7]
     simp only[Instr.indexAt,asIntOf,pure_bind]
     rw[Sem.run_bind,run_underlying hu,Result.andThen_ok]
     have hs:=is.run w
     have e1:(0:Int)≤Int.ofNat n:=by simp
     have e2:Int.ofNat n<(len:Int):=by simpa using hlt
     have hu':=run_underlying hu w
     simp[hu',e2,hs,hlt]
   case array len e=>
    obtain⟨k,hk,hc⟩:=bind_some hc
    simp only[Option.some.injEq] at hc;subst hc
    obtain⟨v,u,h3,h4,h5⟩:=QdI hx
    have h6:=hρ y y' v h1 h3
    have h7:=hρ i i' u h2 h4
    cases u<;>try (cases h5;done)
    rename_i ik n
    cases n<;>try (cases h5;done)
    rename_i n
    cases v<;>try (cases h5;done)
    rename_i id off
    simp only[QGz] at h5
    cases hb:Nat.blt n len with
    | false=>rw[hb] at h5;cases h5
    | true=>
     rw[hb] at h5;simp only[cond_true,Option.some.injEq] at h5;subst h5
     have hlt:=QaQ hb
     obtain⟨a,hp,hv⟩:=Qca h6
     simp only[den,Option.some.injEq] at h7
     haveI is:=QbA hk
     refine⟨.pointer (some ((a.add off).add (n * k))),fun w=>QA ?_,by simp only[den,hp,add_add]⟩
     rw[hv,←h7]
     simp only[Instr.indexAt,asIntOf,pure_bind]
     rw[Sem.run_bind,run_underlying hu,Result.andThen_ok]
     have hs:=is.run w
     have hu':=run_underlying hu w
     simp[hu',Instr.sureAddr,hs,hlt]
 case index t y i=>
  refine Q ?_
  obtain⟨y',h1,hc⟩:=bind_some hc
  obtain⟨i',h2,hc⟩:=bind_some hc
  show QrX P t (ρ y) (ρ i) _
  cases hu:P.underlying t with
  | none=>rw[hu] at hc;cases hc
  | some d=>
   rw[hu] at hc
   cases d<;>try (cases hc;done)
   case array len e=>
    obtain⟨k,hk,hc⟩:=bind_some hc
    obtain⟨ab,hab,hc⟩:=bind_some hc
    simp only[Option.some.injEq] at hc;subst hc
    obtain⟨v,u,h3,h4,h5⟩:=QdI hx
    have h6:=hρ y y' v h1 h3
    have h7:=hρ i i' u h2 h4
    cases u<;>try (cases h5;done)
    rename_i ik n
    cases n<;>try (cases h5;done)
    rename_i n
    simp only[QIc] at h5
    cases hb:Nat.blt n len with
    | false=>rw[hb] at h5;cases h5
    | true=>
     rw[hb] at h5
     simp only[cond_true] at h5
     have hlt:=QaQ hb
     obtain⟨cs,uu,e1,g1,g2⟩:=QIN hk hab h6 h5
     simp only[den,Option.some.injEq] at h7
     haveI is:=QbA hk
     refine⟨uu,fun w=>QA ?_,g1⟩
     rw[e1,←h7]
     simp only[Instr.index,asIntOf,pure_bind]
     rw[Sem.run_bind,run_underlying hu,Result.andThen_ok]
     have hs:=is.run w
     have hg:=g2 w
     simp[hs,hlt,hg]
   simp only[Option.some.injEq] at hc;subst hc
   obtain⟨v,u,h3,h4,h5⟩:=QdI hx
   have h6:=hρ y y' v h1 h3
   have h7:=hρ i i' u h2 h4
   cases u<;>try (cases h5;done)
   rename_i ik n
   cases n<;>try (cases h5;done)
   rename_i n
   cases v<;>try (cases h5;done)
   ·rename_i l
    simp only[QFf] at h5
    cases hh:hd? (Qaz n l) with
    | none=>rw[hh] at h5;cases h5
    | some c=>
     rw[hh] at h5
     have h8:=QeW hh
     obtain⟨hl,hv⟩:=QmO h6
     simp only[den,Option.some.injEq] at h7
     haveI:Und P t .string:=⟨hu⟩
     rw[hv,←h7]
     have hc:=List.all_eq_true.1 hl c (List.mem_of_getElem? h8)
     have hrng:=Qyq hc
     refine (QpT (c:=sbU c) (by simp) (by rw[List.getElem?_map];simp[h8])).2 ?_
     have e:((sbU c).toNat:Int)=sbI c:=by
      rw[QBD]
      have:(sbI c).toNat<256:=by omega
      simp[Nat.mod_eq_of_lt this];omega
     cases c with
     | k c=>simp only[Option.some.injEq] at h5;subst h5;simp only[den];rw[e];rfl
     | v c lo hi=>
      simp only[Option.some.injEq] at h5;subst h5
      simp only[sbOk,decide_eq_true_eq] at hc
      simp only[den];rw[e,if_pos ⟨hc.2.1,hc.2.2.1⟩];rfl
   rename_i l
   simp only[QFf] at h5
   cases hh:hd? (Qaz n l) with
   | none=>rw[hh] at h5;cases h5
   | some c=>
    rw[hh] at h5;simp only[Option.some.injEq] at h5;subst h5
    have h8:=QeW hh
    obtain⟨hl,hv⟩:=Qcr h6
    simp only[den,Option.some.injEq] at h7
    haveI:Und P t .string:=⟨hu⟩
    rw[hv,←h7]
    have hc256:c<256:=by
     have:=List.all_eq_true.1 hl c (List.mem_of_getElem? h8)
     exact QaQ this
    refine (QpT (c:=UInt8.ofNat c) (by simp) (by rw[List.getElem?_map];simp[h8])).2 ?_
    simp[den,Nat.mod_eq_of_lt hc256]
 case extract y i=>
  refine Q ?_
  obtain⟨y',h1,hc⟩:=bind_some hc
  simp only[Option.some.injEq] at hc;subst hc
  obtain⟨v,h5,h6⟩:=Qat hx
  have h7:=hρ y y' v h1 h5
  cases v<;>try (cases h6;done)
  rename_i l
  simp only[den] at h7
  cases hd:denL E l with
  | none=>rw[hd] at h7;cases h7
  | some vs=>
   rw[hd] at h7;simp only[Option.some.injEq] at h7
   obtain⟨u,h8,h9⟩:=Qji hd (QeW h6)
   show oExt P (ρ y) i _
   rw[←h7]
   refine⟨u,fun w=>QA ?_,h9⟩
   have:vs.toArray[i]?=some u:=by simpa using h8
   simp only[Instr.extract,this]
   rfl
 case build t ps=>
  refine Q ?_
  obtain⟨l,h1,hc⟩:=bind_some hc
  show QrZ P t (prs ρ ps) _
  have fin:∀z pl,m=.bld z pl l→zrO P t=some z→((∃fs l0,P.underlying t=some (.struct fs)∧plT P fs.toList=some l0∧plsL l0 ps.toList=some pl)∨∃n e k,P.underlying t=some (.array n e)∧szO P e=some k∧pl=plsK k ps.toList) →
    QrZ P t (prs ρ ps) fun v=>den E x=some v:=fun z pl hm hz hpl=>by
   subst hm
   simp only[evQ0,qBld] at hx
   cases hq:evP fr l with
   | none=>rw[hq] at hx;cases hx
   | some q=>
    rw[hq] at hx
    simp only at hx
    cases hf:Qc4 z pl q with
    | none=>rw[hf] at hx;cases hx
    | some cs=>rw[hf] at hx;simp only[Option.some.injEq] at hx;subst hx;exact QKQ hρ h1 hq hz hf hpl
  cases hu:P.underlying t with
  | none=>rw[hu] at hc;cases hc
  | some d=>
   rw[hu] at hc
   cases d<;>try (cases hc;done)
   case struct fs=>
    obtain⟨z,hz,hc⟩:=bind_some hc
    obtain⟨l0,hl0,hc⟩:=bind_some hc
    obtain⟨pl,hpl,hc⟩:=bind_some hc
    simp only[Option.some.injEq] at hc
    exact fin z pl hc.symm hz (.inl ⟨fs,l0,hu,hl0,hpl⟩)
   case array n e=>
    obtain⟨z,hz,hc⟩:=bind_some hc
    obtain⟨k,hk,hc⟩:=bind_some hc
    simp only[Option.some.injEq] at hc
    exact fin z _ hc.symm hz (.inr ⟨n,e,k,hu,hk,rfl⟩)
 case load t y=>
  refine Q ?_
  obtain⟨y',h1,hc⟩:=bind_some hc
  obtain⟨b,hb,hc⟩:=bind_some hc
  obtain⟨k,hk,hc⟩:=bind_some hc
  by_cases hk0:0<k
  ·rw[if_pos hk0] at hc;simp only[Option.some.injEq] at hc;subst hc
   obtain⟨v,h5,h6⟩:=Qat hx
   exact QH9 r hk hb hk0 (hρ y y' v h1 h5) h6
  ·rw[if_neg hk0] at hc;cases hc
 case call c=>
  obtain⟨callee,args,ats⟩:=c
  cases callee<;>simp only at hc<;>try (exfalso;obtain⟨_,_,hc⟩:=bind_some hc;obtain⟨_,_,hc⟩:=bind_some hc;simp only[Option.some.injEq] at hc;subst hc;simp[evQ0] at hx;done)
  case builtin b=>
   refine Q ?_
   cases b<;>simp only at hc<;>try (cases hc;done)
   case append=>
    exfalso
    split at hc
    ·obtain⟨_,_,hc⟩:=bind_some hc
     obtain⟨_,_,hc⟩:=bind_some hc
     split at hc
     ·obtain⟨_,_,hc⟩:=bind_some hc
      obtain⟨_,_,hc⟩:=bind_some hc
      split at hc
      ·simp only[Option.some.injEq] at hc;subst hc;simp[evQ0] at hx
      ·split at hc
       ·split at hc
        ·simp only[Option.some.injEq] at hc;subst hc;simp[evQ0] at hx
        ·cases hc
       ·cases hc
     ·cases hc
    ·cases hc
   case len=>
    obtain⟨al⟩:=args
    obtain⟨tl⟩:=ats
    match al,tl,hc with
    | [y],[t],hc=>
     simp only at hc
     obtain⟨y',h1,hc⟩:=bind_some hc
     cases hu:P.underlying t with
     | none=>rw[hu] at hc;cases hc
     | some d=>
      rw[hu] at hc
      show (bif isMap P ((#[t]:Array TypeId).getD 0 0) then QpS P #[t] type (ρ y) (Eq h) _ else oLen P #[t] type (ρ y) _)
      by_cases hmm:∃kt et,d=.map kt et
      ·obtain⟨kt,et,rfl⟩:=hmm
       have hm:isMap P ((#[t]:Array TypeId).getD 0 0)=true:=by
        have:(#[t]:Array TypeId).getD 0 0=t:=rfl
        rw[this]
        unfold isMap
        rw[hu]
       rw[hm,cond_true]
       simp only[Option.some.injEq] at hc;subst hc
       obtain⟨v,h5,h6⟩:=Qat hx
       exact QI1 r hu (hρ y y' v h1 h5) h6
      have hm:isMap P ((#[t]:Array TypeId).getD 0 0)=false:=by
       have:(#[t]:Array TypeId).getD 0 0=t:=rfl
       rw[this]
       unfold isMap
       rw[hu]
       cases d<;>first | rfl | (cases hc;done) | exact absurd ⟨_,_,rfl⟩ hmm
      rw[hm,cond_false]
      cases d<;>try (cases hc;done)
      case map kt et=>exact absurd ⟨_,_,rfl⟩ hmm
      case string=>
       simp only[Option.some.injEq] at hc;subst hc
       obtain⟨v,h5,h6⟩:=Qat hx
       have h7:=hρ y y' v h1 h5
       cases v<;>try (cases h6;done)
       ·simp only[Option.some.injEq] at h6;subst h6
        obtain⟨h8,h9⟩:=Qjh h7
        haveI:Und P t .string:=⟨hu⟩
        rw[h9,QvP]
        simp only[den]
        have h8:(Int.ofNat _:Int)≤Int.ofNat 9223372036854775807:=Int.ofNat_le.2 h8
        exact if_pos ⟨Int.natCast_nonneg _,h8⟩
       ·simp only[Option.some.injEq] at h6;subst h6
        obtain⟨hl,hv⟩:=QmO h7
        haveI:Und P t .string:=⟨hu⟩
        rw[hv,QvP];simp only[den,List.length_map];rfl
       simp only[Option.some.injEq] at h6;subst h6
       obtain⟨hl,hv⟩:=Qcr h7
       haveI:Und P t .string:=⟨hu⟩
       rw[hv,QvP];simp only[den,List.length_map];rfl
      case slice e=>
       simp only[Option.some.injEq] at hc;subst hc
       obtain⟨v,h5,h6⟩:=Qat hx
       have h7:=hρ y y' v h1 h5
       haveI:Und P t (.slice e):=⟨hu⟩
       cases v<;>try (cases h6;done)
       ·simp only[Option.some.injEq] at h6;subst h6
        simp only[den,Option.some.injEq] at h7
        rw[←h7]
        exact (Qtw ⟨_,_,rfl⟩).2 rfl
       ·simp only[Option.some.injEq] at h6;subst h6
        obtain⟨a,c,_,hv,_⟩:=QeE h7
        rw[hv]
        exact (Qtw ⟨_,_,rfl⟩).2 rfl
   case cap=>
    obtain⟨al⟩:=args
    obtain⟨tl⟩:=ats
    match al,tl,hc with
    | [y],[t],hc=>
     simp only at hc
     obtain⟨y',h1,hc⟩:=bind_some hc
     cases hu:P.underlying t with
     | none=>rw[hu] at hc;cases hc
     | some d=>
      rw[hu] at hc
      cases d<;>try (cases hc;done)
      rename_i e
      simp only[Option.some.injEq] at hc;subst hc
      obtain⟨v,h5,h6⟩:=Qat hx
      have h7:=hρ y y' v h1 h5
      show oCap P #[t] type (ρ y) _
      cases v<;>simp only[capF] at h6<;>try (cases h6;done)
      ·simp only[Option.some.injEq] at h6;subst h6
       simp only[den,Option.some.injEq] at h7
       rw[←h7]
       refine Sp.of (fun w=>QA ?_) rfl
       simp[Builtin.cap_,run_underlying hu,goInt]
      ·rename_i c
       cases c with
       | hid _=>cases h6
       | lit c=>
        simp only[Option.some.injEq] at h6;subst h6
        obtain⟨a,c',hp,hv,hcc⟩:=QeE h7
        simp only at hcc
        rw[hv]
        refine Sp.of (fun w=>QA ?_) rfl
        simp[Builtin.cap_,run_underlying hu,goInt,hcc]
   case min=>exact QabM false hρ (by obtain⟨al⟩:=args;match al,hc with | [y,z],hc=>exact⟨y,z,rfl,hc⟩) hx rfl
   case max=>exact QabM true hρ (by obtain⟨al⟩:=args;match al,hc with | [y,z],hc=>exact⟨y,z,rfl,hc⟩) hx rfl
 case lookup t y i ok=>
  refine Q ?_
  obtain⟨y',h1,hc⟩:=bind_some hc
  obtain⟨i',h2,hc⟩:=bind_some hc
  cases hu:P.underlying t with
  | none=>rw[hu] at hc;cases hc
  | some d=>
   rw[hu] at hc
   cases d<;>try (cases hc;done)
   obtain⟨dd,hd,hc⟩:=bind_some hc
   obtain⟨z,hz,hc⟩:=bind_some hc
   simp only[Option.some.injEq] at hc;subst hc
   obtain⟨v,u,h3,h4,h5⟩:=QdI hx
   exact QGl r hu hd hz (hρ y y' v h1 h3) (hρ i i' u h2 h4) h5
 case makeMap t rr=>
  exfalso
  obtain⟨_,_,hc⟩:=bind_some hc
  split at hc
  ·obtain⟨_,_,hc⟩:=bind_some hc
   simp only[Option.some.injEq] at hc;subst hc;simp[evQ0] at hx
  ·cases hc
 case mapUpdate t m k v=>
  exfalso
  obtain⟨_,_,hc⟩:=bind_some hc
  obtain⟨_,_,hc⟩:=bind_some hc
  obtain⟨_,_,hc⟩:=bind_some hc
  split at hc
  ·obtain⟨_,_,hc⟩:=bind_some hc
   simp only[Option.some.injEq] at hc;subst hc;simp[evQ0] at hx
  ·cases hc
 case alloc t=>exfalso;obtain⟨_,_,hc⟩:=bind_some hc;simp only[Option.some.injEq] at hc;subst hc;simp[evQ0] at hx
 case box t y=>exfalso;obtain⟨_,_,hc⟩:=bind_some hc;simp only[Option.some.injEq] at hc;subst hc;simp[evQ0] at hx
 case range t y=>
  exfalso
  obtain⟨_,_,hc⟩:=bind_some hc
  split at hc
  ·simp only[Option.some.injEq] at hc;subst hc;simp[evQ0] at hx
  ·cases hc
 case next y b=>
  exfalso
  obtain⟨_,_,hc⟩:=bind_some hc
  cases b
  ·simp only[Option.some.injEq] at hc;subst hc;simp[evQ0] at hx
  ·cases hc
 case entry y=>
  refine Q ?_
  obtain⟨y',h1,hc⟩:=bind_some hc
  simp only[Option.some.injEq] at hc;subst hc
  obtain⟨v,h5,h6⟩:=Qat hx
  exact QKE r (hρ y y' v h1 h5) h6
 case store t a v=>
  exfalso
  obtain⟨_,_,hc⟩:=bind_some hc
  obtain⟨_,_,hc⟩:=bind_some hc
  obtain⟨_,_,hc⟩:=bind_some hc
  simp only[Option.some.injEq] at hc;subst hc;simp[evQ0] at hx
 case buildSlice t n ps=>
  exfalso
  obtain⟨_,_,hc⟩:=bind_some hc
  split at hc
  ·obtain⟨_,_,hc⟩:=bind_some hc
   split at hc
   ·simp only[Option.some.injEq] at hc;subst hc;simp[evQ0] at hx
   ·split at hc
    ·simp only[Option.some.injEq] at hc;subst hc;simp[evQ0] at hx
    ·cases hc
  ·cases hc
 case makeSlice t l c=>
  exfalso
  obtain⟨_,_,hc⟩:=bind_some hc
  obtain⟨_,_,hc⟩:=bind_some hc
  split at hc
  ·obtain⟨_,_,hc⟩:=bind_some hc
   obtain⟨_,_,hc⟩:=bind_some hc
   split at hc
   ·simp only[Option.some.injEq] at hc;subst hc;simp[evQ0] at hx
   ·cases hc
  ·cases hc
end Go.Va
