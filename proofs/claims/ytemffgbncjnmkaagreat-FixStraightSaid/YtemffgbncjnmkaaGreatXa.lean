import Derived.Test.YtemffgbncjnmkaaGreatSt4
import Derived.Test.YtemffgbncjnmkaaGreatPt
set_option linter.unusedVariables false
set_option linter.unusedSimpArgs false
set_option maxRecDepth 100000
noncomputable section
namespace Go.Proofs.YtemffgbncjnmkaaGreat
open Go Go.Sh Go.Va
def QR4 (q:QF):Ctr:=⟨⟨[.a [.h (.s),.h (.l 9),.h (.l 9),.h (.l 8)],.a [.x .nsl,.x .nsl]],[]⟩,[⟨[.a [.x (.bool true),.h (.l 12),.h (.l 13)]],[]⟩],q⟩
def QMv (q:QF):Ctr:=⟨⟨[.a [.h (.s),.h (.l 9),.h (.l 9),.h (.l 8)],.a [.x .nsl,.x .nsl,.x .nsl,.x .nsl]],[]⟩,[⟨[.a [.h (.l 18),.x .nsl,.x .nsl,.x (.bool true),.h (.b),.h (.i .i64),.h (.i .i64),.x .nsl,.h (.i .i64)]],[]⟩],q⟩
def QTq (QLH:QF):Tr FFn:=(.node 144 (.node 67 (.node 40 (.node 37 (.node 35 (.leaf 34 Q3M) (.node 36 (.leaf 35 QQT) (.leaf 36 QXk))) (.node 38 (.leaf 37 QRT) (.node 39 (.leaf 38 QVD) (.leaf 39 QOs)))) (.node 63 (.node 41 (.leaf 40 QTH) (.node 62 (.leaf 41 QPp) (.leaf 62 QPn))) (.node 65 (.node 64 (.leaf 63 (.q (QSd QLH))) (.leaf 64 QPf)) (.node 66 (.leaf 65 QSV) (.leaf 66 Qk7))))) (.node 83 (.node 70 (.node 68 (.leaf 67 QQR) (.node 69 (.leaf 68 QTG) (.leaf 69 QOG))) (.node 71 (.leaf 70 QRR) (.node 72 (.leaf 71 QP1) (.leaf 72 QRQ)))) (.node 93 (.node 87 (.leaf 83 QnI) (.node 88 (.leaf 87 QNS) (.leaf 88 QMV))) (.node 95 (.node 94 (.leaf 93 QPW) (.leaf 94 Qdu)) (.node 143 (.leaf 95 QOT) (.leaf 143 QMQ)))))) (.node 194 (.node 154 (.node 151 (.node 147 (.leaf 144 Qlm) (.node 150 (.leaf 147 QMt) (.leaf 150 QNA))) (.node 152 (.leaf 151 QOS) (.node 153 (.leaf 152 QbK) (.leaf 153 QNz)))) (.node 190 (.node 186 (.leaf 154 QOr) (.node 187 (.leaf 186 QMc) (.leaf 187 QMk))) (.node 192 (.node 191 (.leaf 190 QLV) (.leaf 191 QMm)) (.node 193 (.leaf 192 QLW) (.leaf 193 QL2))))) (.node 217 (.node 197 (.node 195 (.leaf 194 QL0) (.node 196 (.leaf 195 QLN) (.leaf 196 QPx))) (.node 200 (.node 198 (.leaf 197 QLT) (.leaf 198 QMd)) (.node 201 (.leaf 200 QPY) (.leaf 201 QOV)))) (.node 220 (.node 218 (.leaf 217 QMl) (.node 219 (.leaf 218 QLU) (.leaf 219 QMA))) (.node 222 (.node 221 (.leaf 220 QNT) (.leaf 221 QOE)) (.node 234 (.leaf 222 QOh) (.leaf 234 QMz)))))))
def QMq (QLA QLz QLy QLx QLB:QF):Tr FFn:=(.node 24 (.node 21 (.node 19 (.leaf 18 QX7) (.node 20 (.leaf 19 QQS) (.leaf 20 (.q (QR4 QLB))))) (.node 22 (.leaf 21 (.q (QTJ QLA))) (.node 23 (.leaf 22 (.q (QR5 QLz))) (.leaf 23 (.q (QQ0 QLy)))))) (.node 33 (.node 31 (.leaf 24 (.q (QQB QLx))) (.node 32 (.leaf 31 QRV) (.leaf 32 QQw))) (.node 91 (.node 61 (.leaf 33 QRg) (.leaf 61 QQU)) (.node 92 (.leaf 91 QQb) (.leaf 92 QQV)))))
def Q8S:=fun (va:Addr) (vc:Nat) (f:Str) (bo:LD) (Ks:Nat→List LD→Prop) (q QLH:QF)=>QG (QTq QLH) [] QS6 (QR4 q) [.s f,.nul,.l va vc [.t [.s wA,.b false],.t [.s wB,.b false]],bo] Ks
def Q8T:=fun (va qa:Addr) (vc qc:Nat) (f:Str) (bo:LD) (Ks:Nat→List LD→Prop) (q QLH:QF)=>QG (QTq QLH) [] QS6 (QR4 q) [.s f,.l qa qc [],.l va vc [.t [.s wA,.b false],.t [.s wB,.b false]],bo] Ks
abbrev Qac2:List CK:=[.b,.i .i64,.i .i64]
theorem Q8j (va:Go.Addr)(vc:Nat)(f:Str)(bo:LD)(Ks:Nat→List LD→Prop)(q QLH:QF):Q8S va vc f bo Ks q QLH=(((decide (0<(2:Int)))=true∧QLH [.n (0:Int),.n (0:Int)] [apK Qac2 fun (z7:Bool)(z8 z9:Int)=>((Go.Proofs.YtemffgbncjnmkaaGreat.wA=Go.Proofs.YtemffgbncjnmkaaGreat.wA∧(Go.Proofs.YtemffgbncjnmkaaGreat.wA=Go.Proofs.YtemffgbncjnmkaaGreat.wA∧(Go.Proofs.YtemffgbncjnmkaaGreat.wA=Go.Proofs.YtemffgbncjnmkaaGreat.wA∧((decide (1<(2:Int)))=true∧QLH [.n (0:Int),.n (0:Int)] [apK Qac2 fun (aa:Bool)(ab ac:Int)=>((Go.Proofs.YtemffgbncjnmkaaGreat.wB=Go.Proofs.YtemffgbncjnmkaaGreat.wB∧(Go.Proofs.YtemffgbncjnmkaaGreat.wB=Go.Proofs.YtemffgbncjnmkaaGreat.wB∧(Go.Proofs.YtemffgbncjnmkaaGreat.wB=Go.Proofs.YtemffgbncjnmkaaGreat.wB∧QLH [.n (0:Int),.n (0:Int)] [apK Qac2 fun (ad:Bool)(ae af:Int)=>(((Go.Proofs.YtemffgbncjnmkaaGreat.wA=Go.Proofs.YtemffgbncjnmkaaGreat.wA∧(z7=z7∧(z8=z8∧(z9=z9∧True))))∧((Go.Proofs.YtemffgbncjnmkaaGreat.wB=Go.Proofs.YtemffgbncjnmkaaGreat.wB∧(aa=aa∧(ab=ab∧(ac=ac∧True))))∧((Go.Proofs.YtemffgbncjnmkaaGreat.wA=Go.Proofs.YtemffgbncjnmkaaGreat.wA∧(z7=z7∧(z8=z8∧(z9=z9∧True))))∧((Go.Proofs.YtemffgbncjnmkaaGreat.wB=Go.Proofs.YtemffgbncjnmkaaGreat.wB∧(aa=aa∧(ab=ab∧(ac=ac∧True))))∧(∀ag:Go.Addr,(∀ah:Nat,(3≤ah→Ks 0 [.l ag ah [(LD.t [(LD.s Go.Proofs.YtemffgbncjnmkaaGreat.wA),(LD.b z7),(LD.n z8),(LD.n z9)]),(LD.t [(LD.s Go.Proofs.YtemffgbncjnmkaaGreat.wB),(LD.b aa),(LD.n ab),(LD.n ac)]),(LD.t [(LD.s (List.map UInt8.ofNat [114,101,116,117,114,110])),(LD.b ad),(LD.n ae),(LD.n af)])],.nul]))))))):Prop)]))):Prop)])))):Prop)])):=by kernel_rfl
theorem Q8k (va qa:Go.Addr)(vc qc:Nat)(f:Str)(bo:LD)(Ks:Nat→List LD→Prop)(q QLH:QF):Q8T va qa vc qc f bo Ks q QLH=(((decide (0<(2:Int)))=true∧QLH [.n (0:Int),.n (0:Int)] [apK Qac2 fun (z9:Bool)(aa ab:Int)=>((Go.Proofs.YtemffgbncjnmkaaGreat.wA=Go.Proofs.YtemffgbncjnmkaaGreat.wA∧(Go.Proofs.YtemffgbncjnmkaaGreat.wA=Go.Proofs.YtemffgbncjnmkaaGreat.wA∧(Go.Proofs.YtemffgbncjnmkaaGreat.wA=Go.Proofs.YtemffgbncjnmkaaGreat.wA∧((decide (1<(2:Int)))=true∧QLH [.n (0:Int),.n (0:Int)] [apK Qac2 fun (ac:Bool)(ad ae:Int)=>((Go.Proofs.YtemffgbncjnmkaaGreat.wB=Go.Proofs.YtemffgbncjnmkaaGreat.wB∧(Go.Proofs.YtemffgbncjnmkaaGreat.wB=Go.Proofs.YtemffgbncjnmkaaGreat.wB∧(Go.Proofs.YtemffgbncjnmkaaGreat.wB=Go.Proofs.YtemffgbncjnmkaaGreat.wB∧QLH [.n (0:Int),.n (0:Int)] [apK Qac2 fun (af:Bool)(ag ah:Int)=>(((Go.Proofs.YtemffgbncjnmkaaGreat.wA=Go.Proofs.YtemffgbncjnmkaaGreat.wA∧(z9=z9∧(aa=aa∧(ab=ab∧True))))∧((Go.Proofs.YtemffgbncjnmkaaGreat.wB=Go.Proofs.YtemffgbncjnmkaaGreat.wB∧(ac=ac∧(ad=ad∧(ae=ae∧True))))∧((Go.Proofs.YtemffgbncjnmkaaGreat.wA=Go.Proofs.YtemffgbncjnmkaaGreat.wA∧(z9=z9∧(aa=aa∧(ab=ab∧True))))∧((Go.Proofs.YtemffgbncjnmkaaGreat.wB=Go.Proofs.YtemffgbncjnmkaaGreat.wB∧(ac=ac∧(ad=ad∧(ae=ae∧True))))∧(∀ai:Go.Addr,(∀aj:Nat,(3≤aj→Ks 0 [.l ai aj [(LD.t [(LD.s Go.Proofs.YtemffgbncjnmkaaGreat.wA),(LD.b z9),(LD.n aa),(LD.n ab)]),(LD.t [(LD.s Go.Proofs.YtemffgbncjnmkaaGreat.wB),(LD.b ac),(LD.n ad),(LD.n ae)]),(LD.t [(LD.s (List.map UInt8.ofNat [114,101,116,117,114,110])),(LD.b af),(LD.n ag),(LD.n ah)])],.nul]))))))):Prop)]))):Prop)])))):Prop)])):=by kernel_rfl
def sP (k:Int)(x:Str)(e:LD)(n:Int):Prop:=(k=k∧(x=x∧((List.map UInt8.ofNat []:Str)=(List.map UInt8.ofNat []:Str)∧(e=e∧(LD.nul=LD.nul∧(LD.nul=LD.nul∧(LD.nul=LD.nul∧(LD.nul=LD.nul∧(LD.nul=LD.nul∧(n=n∧True))))))))))
theorem QacP {k:Int}{x:Str}{e:LD}{n:Int}:sP k x e n:=⟨rfl,rfl,rfl,rfl,rfl,rfl,rfl,rfl,rfl,rfl,trivial⟩
def stD (er:LD):List (Str×LD)→Nat→List LD
 | [],i=>[.t [.n 9,.s (List.map UInt8.ofNat []),.s (List.map UInt8.ofNat []),er,.nul,.nul,.nul,.nul,.nul,.n (i:Int)]]
 | p::r,i=>.t [.n 0,.s p.1,.s (List.map UInt8.ofNat []),p.2,.nul,.nul,.nul,.nul,.nul,.n (i:Int)]::stD er r i.succ
def stP (er:LD)(N:Nat)(K:Prop):List (Str×LD)→Nat→Prop
 | [],i=>(decide ((i:Int)<(N:Int)))=true∧(sP 9 (List.map UInt8.ofNat []) er (i:Int)∧(sP 9 (List.map UInt8.ofNat []) er (i:Int)∧K))
 | p::r,i=>(decide ((i:Int)<(N:Int)))=true∧(sP 0 p.1 p.2 (i:Int)∧(sP 0 p.1 p.2 (i:Int)∧stP er N K r i.succ))
def alP:Nat→(List (Go.Addr×Nat)→Prop)→Prop
 | 0,K=>K []
 | n+1,K=>∀a:Go.Addr,∀c:Nat,1≤c→alP n fun l=>K ((a,c)::l)
def hdA (l:List (Go.Addr×Nat)):Go.Addr×Nat:=l.headD (⟨0,0,none⟩,0)
def nxD (l:List (Go.Addr×Nat))(j:Nat):LD:=.l (hdA l).1 (hdA l).2 [.t [.n (j:Int)]]
def ndD (er:LD):List (Str×LD)→Nat→List (Go.Addr×Nat)→List LD
 | [],i,l=>[.t [.n 1,.n 9,.s (List.map UInt8.ofNat []),.s (List.map UInt8.ofNat []),er,.nul,.nul,.nul,.nul,.nul,.n (i:Int),nxD l (i+2),.b false],.t [.n 3,.n 0,.s (List.map UInt8.ofNat []),.s (List.map UInt8.ofNat []),.nul,.nul,.nul,.nul,.nul,.nul,.n 0,.nul,.b false]]
 | p::r,i,l=>.t [.n 1,.n 0,.s p.1,.s (List.map UInt8.ofNat []),p.2,.nul,.nul,.nul,.nul,.nul,.n (i:Int),nxD l (i+2),.b false]::ndD er r i.succ l.tail
def grD (er:LD)(L:List (Str×LD))(l:List (Go.Addr×Nat)):List LD:=.t [.n 0,.n 0,.s (List.map UInt8.ofNat []),.s (List.map UInt8.ofNat []),.nul,.nul,.nul,.nul,.nul,.nul,.n 0,nxD l 1,.b false]::ndD er L 0 l.tail
def Qacx:=fun (L:List (Str×LD)) (er:LD) (ba:Addr) (bc:Nat) (f:Str) (pa:LD) (lo:LD) (Ks:Nat→List LD→Prop) (q QLA QLz QLy QLx QLB:QF)=>QG (QMq QLA QLz QLy QLx QLB) [] QMH (QMv q) [.s f,pa,lo,.l ba bc (stD er L 0)] Ks
def Qacw:=fun (L:List (Str×LD)) (er:LD) (ba:Addr) (bc:Nat) (f:Str) (pa:LD) (lo:LD) (Ks:Nat→List LD→Prop) (q QLA QLz QLy QLx QLB:QF)=>
 stP er (L.length+1) (QLB [.s f,pa,lo,.l ba bc (stD er L 0)] [apK [.l 12,.l 13] fun (y39:LD) (y40:LD)=>alP (L.length+2) fun l=>∀a:Go.Addr,∀c:Nat,L.length+3≤c →
  QLA [.l a c (grD er L l),.n 0,.t (.t [.b true,y39,y40]::List.replicate (L.length+2) (.t [.b false,.nul,.nul])),.t (List.replicate (L.length+3) (.t [.b false])),.t (List.replicate (L.length+3) (.t [.n 0]))] [apK [.l 19,.i .i64,.r 18,.r 3,.r 2] fun (y73:LD) (z_74:Int) (z_75:List LD) (z_76:List LD) (z_77:List LD)=>(QLz [y73,(LD.n z_74),(LD.t z_75),(LD.t z_76),(LD.t z_77)] [apK [.l 19,.l 18,.i .i64,.r 3,.r 2] fun (y78:LD) (y79:LD) (z_80:Int) (z_81:List LD) (z_82:List LD)=>(QLy [y78,y79,(LD.n z_80),(LD.t z_81),(LD.t z_82)] [apK [.l 19,.l 18,.i .i64,.r 3,.r 2] fun (y83:LD) (y84:LD) (z_85:Int) (z_86:List LD) (z_87:List LD)=>(QLx [y83,y84,(LD.n z_85),(LD.t z_86),(LD.t z_87)] [apK [.b,.i .i64,.i .i64,.l 19,.l 18,.i .i64,.r 3,.r 2] fun (z_88:Bool) (z_89:Int) (z_90:Int) (y91:LD) (y92:LD) (z_93:Int) (z_94:List LD) (z_95:List LD)=>((z_85=z_93∧(y84=y92∧Ks 0 [y84,(LD.b z_88),(LD.n z_89),(LD.n z_90),(LD.n z_85)])):Prop)]:Prop)]:Prop)]:Prop)]]) L 0
variable (p0 p1 p2 p3 p4 p5 p6 p7 p8 p9 p10 p11 p12:Str×LD) (er:LD) (ba:Addr) (bc:Nat) (f:Str) (pa:LD) (lo:LD) (Ks:Nat→List LD→Prop) (q q0 q1 q2 q3 q4:QF)
theorem QacO:Qacx [p0] er ba bc f pa lo Ks q q0 q1 q2 q3 q4=Qacw [p0] er ba bc f pa lo Ks q q0 q1 q2 q3 q4:=by kernel_rfl
theorem QacN:Qacx [p0,p1] er ba bc f pa lo Ks q q0 q1 q2 q3 q4=Qacw [p0,p1] er ba bc f pa lo Ks q q0 q1 q2 q3 q4:=by kernel_rfl
theorem QacM:Qacx [p0,p1,p2] er ba bc f pa lo Ks q q0 q1 q2 q3 q4=Qacw [p0,p1,p2] er ba bc f pa lo Ks q q0 q1 q2 q3 q4:=by kernel_rfl
theorem QacL:Qacx [p0,p1,p2,p3] er ba bc f pa lo Ks q q0 q1 q2 q3 q4=Qacw [p0,p1,p2,p3] er ba bc f pa lo Ks q q0 q1 q2 q3 q4:=by kernel_rfl
theorem QacK:Qacx [p0,p1,p2,p3,p4] er ba bc f pa lo Ks q q0 q1 q2 q3 q4=Qacw [p0,p1,p2,p3,p4] er ba bc f pa lo Ks q q0 q1 q2 q3 q4:=by kernel_rfl
theorem QacJ:Qacx [p0,p1,p2,p3,p4,p5] er ba bc f pa lo Ks q q0 q1 q2 q3 q4=Qacw [p0,p1,p2,p3,p4,p5] er ba bc f pa lo Ks q q0 q1 q2 q3 q4:=by kernel_rfl
theorem QacI:Qacx [p0,p1,p2,p3,p4,p5,p6] er ba bc f pa lo Ks q q0 q1 q2 q3 q4=Qacw [p0,p1,p2,p3,p4,p5,p6] er ba bc f pa lo Ks q q0 q1 q2 q3 q4:=by kernel_rfl
theorem QacH:Qacx [p0,p1,p2,p3,p4,p5,p6,p7] er ba bc f pa lo Ks q q0 q1 q2 q3 q4=Qacw [p0,p1,p2,p3,p4,p5,p6,p7] er ba bc f pa lo Ks q q0 q1 q2 q3 q4:=by kernel_rfl
theorem QacG:Qacx [p0,p1,p2,p3,p4,p5,p6,p7,p8] er ba bc f pa lo Ks q q0 q1 q2 q3 q4=Qacw [p0,p1,p2,p3,p4,p5,p6,p7,p8] er ba bc f pa lo Ks q q0 q1 q2 q3 q4:=by kernel_rfl
theorem QacF:Qacx [p0,p1,p2,p3,p4,p5,p6,p7,p8,p9] er ba bc f pa lo Ks q q0 q1 q2 q3 q4=Qacw [p0,p1,p2,p3,p4,p5,p6,p7,p8,p9] er ba bc f pa lo Ks q q0 q1 q2 q3 q4:=by kernel_rfl
theorem QacE:Qacx [p0,p1,p2,p3,p4,p5,p6,p7,p8,p9,p10] er ba bc f pa lo Ks q q0 q1 q2 q3 q4=Qacw [p0,p1,p2,p3,p4,p5,p6,p7,p8,p9,p10] er ba bc f pa lo Ks q q0 q1 q2 q3 q4:=by kernel_rfl
theorem QacD:Qacx [p0,p1,p2,p3,p4,p5,p6,p7,p8,p9,p10,p11] er ba bc f pa lo Ks q q0 q1 q2 q3 q4=Qacw [p0,p1,p2,p3,p4,p5,p6,p7,p8,p9,p10,p11] er ba bc f pa lo Ks q q0 q1 q2 q3 q4:=by kernel_rfl
theorem QacC:Qacx [p0,p1,p2,p3,p4,p5,p6,p7,p8,p9,p10,p11,p12] er ba bc f pa lo Ks q q0 q1 q2 q3 q4=Qacw [p0,p1,p2,p3,p4,p5,p6,p7,p8,p9,p10,p11,p12] er ba bc f pa lo Ks q q0 q1 q2 q3 q4:=by kernel_rfl
end Go.Proofs.YtemffgbncjnmkaaGreat
namespace Go.Proofs.YtemffgbncjnmkaaGreat
open Go Go.Sh Go.Va
theorem decB {i:Int}{n:Nat}(h0:0≤i)(h1:i<(Int.ofNat n)):((decide (0≤i))&&(decide (i<(Int.ofNat n))))=true:=decA (decD h0) (decD h1)
def QlX (c:Int):Bool:=(decide (97≤c)&&decide (c≤122))||(decide (65≤c)&&decide (c≤90))||decide (c=95)
def Qo5 (c:Int):Bool:=decide (48≤c)&&decide (c≤57)
def QD:QF:=fun xs Ks=>∃c,xs=[.n c]∧nthK Ks 0 [.b (QlX c)]
def QE:QF:=fun xs Ks=>∃c,xs=[.n c]∧nthK Ks 0 [.b (Qo5 c)]
theorem Qvm {c:Int}{f:TelK [.b]}(h:f (QlX c)):QD [.n c] [apK [.b] f]:=⟨c,rfl,fun _=>h⟩
theorem Qyd {c:Int}{f:TelK [.b]}(h:f (Qo5 c)):QE [.n c] [apK [.b] f]:=⟨c,rfl,fun _=>h⟩
theorem QzR {c:Int}{Ks:Nat→List LD→Prop}{q:QF}(hk:Ks 0 [.b (QlX c)]):QqK c Ks q:=by
 refine Eq.mpr (QAy ..) ?_
 unfold QlX at hk
 repeat' first
  | refine bifD (fun h=>?_) (fun h=>?_)
  | (simp only[*,decide_true,decide_false,Bool.true_and,Bool.false_and,Bool.and_true,Bool.and_false,Bool.or_true,Bool.true_or,Bool.or_false,Bool.false_or] at hk;exact hk)
theorem QBx {c:Int}{Ks:Nat→List LD→Prop}{q:QF}(hk:Ks 0 [.b (Qo5 c)]):Qta c Ks q:=by
 refine Eq.mpr (QCF ..) ?_
 unfold Qo5 at hk
 repeat' first
  | refine bifD (fun h=>?_) (fun h=>?_)
  | (simp only[*,decide_true,decide_false,Bool.true_and,Bool.false_and,Bool.and_true,Bool.and_false,Bool.or_true,Bool.true_or,Bool.or_false,Bool.false_or] at hk;exact hk)
def QV:QF:=fun xs Ks=>∃s c,xs=[.s s,.n c]∧s.length≤1000000∧(∃j:Int,0≤j∧j<s.length∧byteAt s j=c)∧nthK Ks 0 [.b true]
def QdG (g:Nat):QF:=fun xs Ks=>∃s c i,xs=[.s s,.n c,.n i]∧s.length≤1000000∧0≤i∧(∃j:Int,i≤j∧j<s.length∧byteAt s j=c)∧(s.length - i:Int).toNat<g∧nthK Ks 1 [.b true]
theorem QEK {s:Str}{c:Int}{Ks:Nat→List LD→Prop}{q:QF}(hs:s.length≤1000000)(hj:∃j:Int,0≤j∧j<s.length∧byteAt s j=c)(hk:Ks 0 [.b true]):Qya s c Ks q (fun xs Ks=>∃j,QdG j xs Ks):=by
 refine Eq.mpr (QFl ..) ?_
 exact⟨_,s,c,0,rfl,hs,by omega,hj,Nat.lt_succ_self _,fun _=>hk⟩
theorem QBw {s:Str}{c i:Int}{Ks:List (List LD→Prop)}{q:QF}{j:Nat}(h:QdG (j+1) [.s s,.n c,.n i] Ks):Qs9 s c i (fun ys=>QdG j ys Ks) (nthK Ks) q:=by
 obtain⟨s',c',i',e,hs,h0,⟨k,k1,k2,k3⟩,hj,hk⟩:=h
 simp only[List.cons.injEq,LD.s.injEq,LD.n.injEq,and_true] at e
 obtain⟨rfl,rfl,rfl⟩:=e
 refine Eq.mpr (QCE ..) ?_
 refine bifD (fun hc=>⟨decB h0 hc,bifD (fun _=>hk) fun hn=>?_⟩) fun hn=>absurd (show i<Int.ofNat s.length by show i<(s.length:Int);omega) hn
 have hc':i<(s.length:Int):=hc
 have hne:i≠k:=fun e=>hn (e ▸ k3)
 rw[QJ (x:=i+1) (by omega) (by omega)]
 exact⟨s,c,i+1,rfl,hs,by omega,⟨k,by omega,k2,k3⟩,by omega,hk⟩
theorem QHR {s:Str}{c:Int}{f:TelK [.b]}(hs:s.length≤1000000)(hj:∃j:Int,0≤j∧j<s.length∧byteAt s j=c)(h:f true):QV [.s s,.n c] [apK [.b] f]:=⟨s,c,rfl,hs,hj,fun _=>h⟩
def b8 (l:List Nat):Str:=l.map UInt8.ofNat
def Qacl:List Str:=[b8 [102,110],b8 [118,97,114],b8 [112,116,114],b8 [105,102],b8 [101,108,115,101],b8 [119,104,105,108,101],b8 [114,101,116,117,114,110],b8 [97,115,115,101,114,116],b8 [110,117,108,108],b8 [99,101,108,108],b8 [97,114,114,97,121]]
def QOn (s:Str):Bool:=Qacl.any fun w=>decide (w=s)
def QbE:QF:=fun xs Ks=>∃s,xs=[.s s]∧nthK Ks 0 [.b (QOn s)]
def anyW (s:Str)(l:List LD):Bool:=l.any fun e=>decide ((e.f 0).st=s)
def Qdc (g:Nat):QF:=fun xs Ks=>∃s l i,xs=[.s s,l,.n i]∧l.len≤1000000∧0≤i∧i≤l.len∧(l.len - i:Int).toNat<g∧(anyW s (l.es.drop i.toNat)=false→nthK Ks 0 [])∧(anyW s (l.es.drop i.toNat)=true→nthK Ks 1 [.b true])
theorem QJZ {s:Str}{f:TelK [.b]}(h:f (QOn s)):QbE [.s s] [apK [.b] f]:=⟨s,rfl,fun _=>h⟩
theorem QDb {s:Str}{Ks:Nat→List LD→Prop}{q:QF}(hk:Ks 0 [.b (QOn s)]):Qvf s Ks q (fun xs Ks=>∃j,Qdc j xs Ks):=by
 refine Eq.mpr (QDx ..) ?_
 intro a c hc
 refine⟨_,s,_,0,rfl,?_,by omega,?_,Nat.lt_succ_self _,fun h=>?_,fun h=>?_⟩
 ·simp[LD.len,LD.es]
 ·simp[LD.len,LD.es]
 ·have e:QOn s=false:=h
  exact fun _=>e ▸ hk
 ·have e:QOn s=true:=h
  exact fun _=>e ▸ hk
theorem at_f (l:LD)(k:Nat)(i:Int)(n:Nat):(l.at k i).f n=(l.es.getD i.toNat .nul).f n:=rfl
theorem drop_at {l:LD}{i:Int}(h0:0≤i)(h1:i<l.len):l.es.drop i.toNat=l.es.getD i.toNat .nul::l.es.drop (i+1).toNat:=by
 have hm:i.toNat<l.es.length:=by have:i<(l.es.length:Int):=h1;omega
 rw[List.drop_eq_getElem_cons hm,List.getD_eq_getElem?_getD,List.getElem?_eq_getElem hm,show (i+1).toNat=i.toNat+1 by omega];rfl
theorem QzP {s:Str}{l:LD}{i:Int}{Ks:List (List LD→Prop)}{q:QF}{j:Nat}(h:Qdc (j+1) [.s s,l,.n i] Ks):QqI s l i (fun ys=>Qdc j ys Ks) (nthK Ks) q:=by
 obtain⟨s',l',i',e,hs,h0,h1,hj,k0,k1⟩:=h
 simp only[List.cons.injEq,LD.s.injEq,LD.n.injEq,and_true] at e
 obtain⟨rfl,rfl,rfl⟩:=e
 refine Eq.mpr (QAw ..) ?_
 simp only[at_f]
 refine bifD (fun hc=>⟨decB h0 hc,bifD (fun he=>k1 ?_) fun he=>?_⟩) fun hc=>k0 ?_
 ·rw[drop_at h0 hc,anyW,List.any_cons,decide_eq_true he];rfl
 ·have hc':i<(l.len:Int):=hc
  rw[QJ (x:=i+1) (by omega) (by omega)]
  have e:anyW s (l.es.drop i.toNat)=anyW s (l.es.drop (i+1).toNat):=by
   rw[drop_at h0 hc,anyW,List.any_cons,decide_eq_false he,Bool.false_or];rfl
  rw[e] at k0 k1
  exact⟨s,l,i+1,rfl,hs,by omega,by omega,by omega,k0,k1⟩
 ·have hc':¬i<(l.len:Int):=hc
  have hl:(l.len:Int)=(l.es.length:Int):=rfl
  rw[List.drop_eq_nil_of_le (by omega)];rfl
def numF (n:Int)(b:UInt8):Int:=10 * n+((b.toNat:Int) - 48)
def numS (s:Str):Int:=s.foldl numF 0
def QK:QF:=fun xs Ks=>∃s,xs=[.s s]∧s.length≤9∧(∀b∈s,48≤b.toNat∧b.toNat≤57)∧nthK Ks 0 [.n (numS s)]
def Qcw (g:Nat):QF:=fun xs Ks=>∃s n i,xs=[.s s,.n n,.n i]∧s.length≤9∧(∀b∈s,48≤b.toNat∧b.toNat≤57)∧0≤i∧i≤(s.length:Int)∧0≤n∧n<10 ^ i.toNat∧(s.length - i:Int).toNat<g∧nthK Ks 0 [.n ((s.drop i.toNat).foldl numF n)]
theorem QBo {s:Str}{f:TelK [.i .i64]}(hs:s.length≤9)(hd:∀b∈s,48≤b.toNat∧b.toNat≤57)(h:f (numS s)):QK [.s s] [apK [.i .i64] f]:=⟨s,rfl,hs,hd,fun _=>h⟩
theorem QzQ {s:Str}{Ks:Nat→List LD→Prop}{q:QF}(hs:s.length≤9)(hd:∀b∈s,48≤b.toNat∧b.toNat≤57)(hk:Ks 0 [.n (numS s)]):QqJ s Ks q (fun xs Ks=>∃j,Qcw j xs Ks):=by
 refine Eq.mpr (QAx ..) ?_
 exact⟨_,s,0,0,rfl,hs,hd,by omega,by omega,by omega,by simp,Nat.lt_succ_self _,fun _=>hk⟩
theorem QWk {s:Str}{i:Int}(h0:0≤i)(h1:i<s.length):∃b,s.drop i.toNat=b::s.drop (i+1).toNat∧byteAt s i=Int.ofNat b.toNat∧b∈s:=by
 have hm:i.toNat<s.length:=by omega
 refine⟨s[i.toNat],?_,?_,List.getElem_mem hm⟩
 ·rw[List.drop_eq_getElem_cons hm,show (i+1).toNat=i.toNat+1 by omega]
 ·rw[byteAt,List.getD_eq_getElem?_getD,List.getElem?_eq_getElem hm];rfl
theorem QwL {s:Str}{n i:Int}{Ks:List (List LD→Prop)}{q:QF}{j:Nat}(h:Qcw (j+1) [.s s,.n n,.n i] Ks):QnP s n i (fun ys=>Qcw j ys Ks) (nthK Ks) q:=by
 obtain⟨s',n',i',e,hs,hd,h0,h1,n0,n1,hj,hk⟩:=h
 simp only[List.cons.injEq,LD.s.injEq,LD.n.injEq,and_true] at e
 obtain⟨rfl,rfl,rfl⟩:=e
 refine Eq.mpr (QxK ..) ?_
 refine bifD (fun hc=>⟨decB h0 hc,?_⟩) fun hc=>?_
 ·have hc':i<(s.length:Int):=hc
  obtain⟨b,e1,e2,hb⟩:=QWk h0 hc'
  obtain⟨b0,b1⟩:=hd b hb
  have hp:(10:Int) ^ (i+1).toNat=10 * 10 ^ i.toNat:=by rw[show (i+1).toNat=i.toNat+1 by omega,Int.pow_succ,Int.mul_comm]
  have hq:(10:Int) ^ (i+1).toNat≤10 ^ 9:=by
   have:(10:Nat) ^ (i+1).toNat≤10 ^ 9:=Nat.pow_le_pow_right (by decide) (by omega)
   exact_mod_cast this
  have hq':(10:Int) ^ (i+1).toNat≤1000000000:=hq
  have eu:IntKind.u8.wrap (byteAt s i - 48)=(b.toNat:Int) - 48:=by rw[e2,IntKind.wrap_u8];show ((b.toNat:Int) - 48) % 256=_;omega
  rw[QJ (x:=i+1) (by omega) (by omega),eu,QJ (x:=10 * n) (by omega) (by omega),QJ (by omega) (by omega)]
  rw[e1,List.foldl_cons] at hk
  exact⟨s,_,i+1,rfl,hs,hd,by omega,by omega,by omega,by omega,by omega,hk⟩
 ·have hc':¬i<(s.length:Int):=hc
  rw[List.drop_eq_nil_of_le (by omega)] at hk
  exact hk
end Go.Proofs.YtemffgbncjnmkaaGreat
