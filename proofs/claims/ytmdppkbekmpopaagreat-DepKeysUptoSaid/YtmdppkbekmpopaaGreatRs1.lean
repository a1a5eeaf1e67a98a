import Derived.Test.YtmdppkbekmpopaaGreatGk
set_option linter.unusedVariables false
set_option linter.unusedSimpArgs false
set_option linter.unusedSectionVars false
set_option maxRecDepth 100000
noncomputable section
namespace Go.Proofs.YtmdppkbekmpopaaGreat
open Go Go.Sh Go.Va
def Qjm (q:QF):Ctr:=⟨⟨[.a [zL 1,zL 11]],[]⟩,[⟨[zI],[]⟩],q⟩
def Qdq (q:QF):LCt:=⟨3,[1,3,4],[(some 0,[3])],⟨⟨[.p 0 0,.s 1 1,zI],[.c [zL 1,zL 11] 0,.r 1]⟩,[⟨[.s 1 1],[.c [zL 1,zL 11] 0,.r 1]⟩],q⟩⟩
def Qdp (q:QF):LCt:=⟨7,[3,5],[(some 2,[]),(none,[2])],⟨⟨[zL 1,zI],[]⟩,[⟨[],[]⟩,⟨[zI],[]⟩],q⟩⟩
def Qbw (q:QF):LCt:=⟨10,[3,5,6],[(some 4,[3,5]),(none,[2])],⟨⟨[zL 1,zI,zI],[]⟩,[⟨[zL 1,zI],[]⟩,⟨[zI],[]⟩],q⟩⟩
def QkR (q:QF):Ctr:=⟨⟨[.h (.i .u8),zL 22],[]⟩,[⟨[zL 20],[]⟩],q⟩
def QkS (q:QF):Ctr:=⟨⟨[zL 22,zI],[]⟩,[⟨[zB],[]⟩],q⟩
def Qd1 (q:QF):LCt:=⟨4,[0,1,5],[(some 0,[]),(none,[4])],⟨⟨[zL 22,zI,zI],[]⟩,[⟨[],[]⟩,⟨[zB],[]⟩],q⟩⟩
def Qg4 (q:QF):Ctr:=⟨⟨[zL 20],[]⟩,[⟨[.a [zL 1,zL 11,zL 10]],[]⟩],q⟩
def QcL (q:QF):LCt:=⟨3,[0,2,3,4],[(some 0,[2,3])],⟨⟨[zL 20,.p 0 0,.p 1 0,zI],[.c [zL 1,zL 11,zL 10] 0,.c [zL 1,zL 11,zL 10] 0]⟩,[⟨[.p 0 0,.p 1 0],[.c [zL 1,zL 11,zL 10] 0,.c [zL 1,zL 11,zL 10] 0]⟩],q⟩⟩
def Qa5 (q:QF):LCt:=⟨14,[0,2,3,4,8,11],[(some 2,[0,2,3,4,8,11])],⟨⟨[zL 20,.p 0 0,.p 1 0,zI,.p 2 0,zI],[.c [zL 1,zL 11,zL 10] 0,.c [zL 1,zL 11,zL 10] 0,.c [zS,zL 9,zL 9,zL 8] 0]⟩,[⟨[zL 20,.p 0 0,.p 1 0,zI,.p 2 0,zI],[.c [zL 1,zL 11,zL 10] 0,.c [zL 1,zL 11,zL 10] 0,.c [zS,zL 9,zL 9,zL 8] 0]⟩],q⟩⟩
def QdO:Tr FFn:=.nil
def Qoe (QX Q7 QaO:QF):Tr FFn:=(.node 33 (.leaf 17 (.q (Qie QX))) (.node 34 (.leaf 33 (.q (QmS QaO))) (.leaf 34 (.q (Qif Q7)))))
def Qi7:Tr FFn:=.nil
def Qeh (QQ Qac QW QZ:QF):Tr FFn:=(.node 37 (.node 36 (.leaf 35 (.q (Qig QW))) (.leaf 36 (.q (Qjm QZ)))) (.node 38 (.leaf 37 (.q (QmU Qac))) (.leaf 38 (.q (Qg6 QQ)))))
def QqQ:=fun (ce:LD) (ar:LD) (Ks:KN) (q ql_3 ql_7 ql_10:QF)=>QG QdO [Qdq ql_3,Qdp ql_7,Qbw ql_10] Qqy (Qjm q) [ce,ar] Ks
def QnZ:=fun (i:Int) (ce:LD) (ar:LD) (w:List LD) (R:LP) (Ks:KN) (q:QF)=>Qaa QdO [] QaL QmI (Qdq q) [.n i,ce,ar,.t w] R Ks
def QnY:=fun (l:LD) (i:Int) (R:LP) (Ks:KN) (q ql_10:QF)=>Qaa QdO [Qbw ql_10] QaL QmH (Qdp q) [l,.n i] R Ks
def Qm7:=fun (l:LD) (i:Int) (k:Int) (R:LP) (Ks:KN) (q:QF)=>Qaa QdO [] QaL Qlu (Qbw q) [l,.n i,.n k] R Ks
def Qs7:=fun (g:Int) (l:LD) (Ks:KN) (q QX Q7 QaO:QF)=>QG (Qoe QX Q7 QaO) [] Qr3 (QkR q) [.n g,l] Ks
def Qs8:=fun (l:LD) (m:Int) (Ks:KN) (q ql_4:QF)=>QG Qi7 [Qd1 ql_4] Qr4 (QkS q) [l,.n m] Ks
def Qpi:=fun (l:LD) (m:Int) (i:Int) (R:LP) (Ks:KN) (q:QF)=>Qaa Qi7 [] Qes QnL (Qd1 q) [l,.n m,.n i] R Ks
def QnR:=fun (t:LD) (Ks:KN) (q QQ Qac QW QZ ql_3 ql_14:QF)=>QG (Qeh QQ Qac QW QZ) [QcL ql_3,Qa5 ql_14] QnE (Qg4 q) [t] Ks
def QlG:=fun (t:LD) (i:Int) (zc:LD) (za:LD) (zf:LD) (gc:LD) (ga:LD) (pf:LD) (R:LP) (Ks:KN) (q QQ Qac QW QZ ql_14:QF)=>Qaa (Qeh QQ Qac QW QZ) [Qa5 ql_14] Qa6 Qki (QcL q) [t,.n i,zc,za,zf,gc,ga,pf] R Ks
def QkA:=fun (t:LD) (i:Int) (a:Int) (zc:LD) (za:LD) (zf:LD) (gc:LD) (ga:LD) (pf:LD) (fn:Str) (fp:LD) (fl:LD) (fb:LD) (R:LP) (Ks:KN) (q QQ Qac QW QZ:QF)=>Qaa (Qeh QQ Qac QW QZ) [] Qa6 QiV (Qa5 q) [t,.n i,.n a,zc,za,zf,gc,ga,pf,.s fn,fp,fl,fb] R Ks
theorem QAE (ce ar:LD)(Ks:KN)(q ql_3 ql_7 ql_10:QF):QqQ ce ar Ks q ql_3 ql_7 ql_10=((((ce.es.length * 16)≤140737488355328∧ce.es.length≤4611686018427387904)∧ql_3 [.n (0:Int),ce,ar,.t ce.es] [apK [.l 1,.l 11,.r 1] fun (y7 y8:LD) (z9:List LD)=>(((z9=[]→ql_7 [.nul,.n (0:Int)] [apK [] (Ks 0 [.n (0:Int)]:Prop),apK [.i .i64] fun (aa:Int)=>(Ks 0 [.n aa]:Prop)])∧(∀ab:Go.Addr,(∀ac:Nat,(z9.length≤ac→ql_7 [.l ab ac z9,.n (0:Int)] [apK [] (Ks 0 [.n (0:Int)]:Prop),apK [.i .i64] fun (ad:Int)=>(Ks 0 [.n ad]:Prop)])))):Prop)])):=kx
theorem QxU (i:Int)(ce ar:LD)(w:List LD)(R:LP)(Ks:KN)(q:QF):QnZ i ce ar w R Ks q=((bif (decide (i<(Int.ofNat ar.len))) then (((decide (0≤i))&&(decide (i<(Int.ofNat ar.len))))=true∧((((w.length+1) * 16)≤140737488355328∧(w.length+1)≤4611686018427387904)∧R [.n (IntKind.i64.wrap (i+1)),ce,ar,.t (w++[(LD.t [(LD.s ((ar.at 2 i).f 0).st)])])])) else Ks 0 [ce,ar,.t w])):=kx
theorem QxT (l:LD)(i:Int)(R:LP)(Ks:KN)(q ql_10:QF):QnY l i R Ks q ql_10=((bif (decide (i<(Int.ofNat l.len))) then ql_10 [l,.n i,.n (0:Int)] [apK [.l 1,.i .i64] fun (y6:LD) (z7:Int)=>(R [y6,.n (IntKind.i64.wrap (z7+1))]:Prop),apK [.i .i64] fun (z6:Int)=>(Ks 1 [.n z6]:Prop)] else Ks 0 [])):=kx
theorem Qwi (l:LD)(i k:Int)(R:LP)(Ks:KN)(q:QF):Qm7 l i k R Ks q=((bif (decide (k<i)) then (((decide (0≤k))&&(decide (k<(Int.ofNat l.len))))=true∧(((decide (0≤i))&&(decide (i<(Int.ofNat l.len))))=true∧(bif (decide (((l.at 1 k).f 0).st=((l.at 1 i).f 0).st)) then Ks 1 [.n (60:Int)] else R [l,.n i,.n (IntKind.i64.wrap (k+1))]))) else Ks 0 [l,.n i])):=kx
theorem QCC (g:Int)(l:LD)(Ks:KN)(q QX Q7 QaO:QF):Qs7 g l Ks q QX Q7 QaO=((bif (decide (0<(Int.ofNat l.len))) then ((decide (0<(Int.ofNat l.len)))=true∧QX [.n (0:Int)] [apK [.s] fun (z7:Str)=>(QaO [.n (0:Int),((l.at 1 (0:Int)).f 0)] [apK [.s] fun (z8:Str)=>((bif (decide (1<(Int.ofNat l.len))) then ((decide (1<(Int.ofNat l.len)))=true∧QX [.n (1:Int)] [apK [.s] fun (z9:Str)=>(QaO [.n (1:Int),((l.at 1 (1:Int)).f 0)] [apK [.s] fun (aa:Str)=>((bif (decide (2<(Int.ofNat l.len))) then ((decide (2<(Int.ofNat l.len)))=true∧QX [.n (2:Int)] [apK [.s] fun (ab:Str)=>(QaO [.n (2:Int),((l.at 1 (2:Int)).f 0)] [apK [.s] fun (ac:Str)=>((bif (decide (3<(Int.ofNat l.len))) then ((decide (3<(Int.ofNat l.len)))=true∧QX [.n (3:Int)] [apK [.s] fun (ad:Str)=>(QaO [.n (3:Int),((l.at 1 (3:Int)).f 0)] [apK [.s] fun (ae:Str)=>((bif (decide (4<(Int.ofNat l.len))) then Q7 [.n g] [apK [.s] fun (af:Str)=>((∀ag:Go.Addr,(∀ah:Nat,(5≤ah→Ks 0 [.l ag ah [(LD.t [(LD.s z7),(LD.s z8)]),(LD.t [(LD.s z9),(LD.s aa)]),(LD.t [(LD.s (bzz [103,108,111,98,97,108,115])),(LD.s af)]),(LD.t [(LD.s ab),(LD.s ac)]),(LD.t [(LD.s ad),(LD.s ae)])]]))):Prop)] else Q7 [.n g] [apK [.s] fun (af:Str)=>((∀ag:Go.Addr,(∀ah:Nat,(5≤ah→Ks 0 [.l ag ah [(LD.t [(LD.s z7),(LD.s z8)]),(LD.t [(LD.s z9),(LD.s aa)]),(LD.t [(LD.s (bzz [103,108,111,98,97,108,115])),(LD.s af)]),(LD.t [(LD.s ab),(LD.s ac)]),(LD.t [(LD.s ad),(LD.s ae)])]]))):Prop)]):Prop)]:Prop)]) else Q7 [.n g] [apK [.s] fun (ad:Str)=>((∀ai:Go.Addr,(∀aj:Nat,(4≤aj→Ks 0 [.l ai aj [(LD.t [(LD.s z7),(LD.s z8)]),(LD.t [(LD.s z9),(LD.s aa)]),(LD.t [(LD.s (bzz [103,108,111,98,97,108,115])),(LD.s ad)]),(LD.t [(LD.s ab),(LD.s ac)])]]))):Prop)]):Prop)]:Prop)]) else Q7 [.n g] [apK [.s] fun (ab:Str)=>((∀ak:Go.Addr,(∀al:Nat,(3≤al→Ks 0 [.l ak al [(LD.t [(LD.s z7),(LD.s z8)]),(LD.t [(LD.s z9),(LD.s aa)]),(LD.t [(LD.s (bzz [103,108,111,98,97,108,115])),(LD.s ab)])]]))):Prop)]):Prop)]:Prop)]) else Q7 [.n g] [apK [.s] fun (z9:Str)=>((∀am:Go.Addr,(∀an:Nat,(2≤an→Ks 0 [.l am an [(LD.t [(LD.s z7),(LD.s z8)]),(LD.t [(LD.s (bzz [103,108,111,98,97,108,115])),(LD.s z9)])]]))):Prop)]):Prop)]:Prop)]) else Q7 [.n g] [apK [.s] fun (z7:Str)=>((∀a8:Go.Addr,(∀c9:Nat,(1≤c9→Ks 0 [.l a8 c9 [(LD.t [(LD.s (bzz [103,108,111,98,97,108,115])),(LD.s z7)])]]))):Prop)])):=kx
theorem QCD (l:LD)(m:Int)(Ks:KN)(q ql_4:QF):Qs8 l m Ks q ql_4=((bif (decide (4<(Int.ofNat l.len))) then Ks 0 [.b false] else ql_4 [l,.n m,.n (0:Int)] [apK [] (Ks 0 [.b true]:Prop),apK [.b] fun (z5:Bool)=>(Ks 0 [.b z5]:Prop)])):=kx
theorem QyY (l:LD)(m i:Int)(R:LP)(Ks:KN)(q:QF):Qpi l m i R Ks q=((bif (decide (i<(Int.ofNat l.len))) then (((decide (0≤i))&&(decide (i<(Int.ofNat l.len))))=true∧(bif (decide (m<(Int.ofNat ((l.at 1 i).f 0).len))) then Ks 1 [.b false] else R [l,.n m,.n (IntKind.i64.wrap (i+1))])) else Ks 0 [])):=kx
theorem QxM (t:LD)(Ks:KN)(q QQ Qac QW QZ ql_3 ql_14:QF):QnR t Ks q QQ Qac QW QZ ql_3 ql_14=(ql_3 [t,.n (0:Int),.nul,.nul,.nul,.nul,.nul,.nul] [apK [.l 1,.l 11,.l 10,.l 1,.l 11,.l 10] fun (y9 aa ab ac ad ae:LD)=>(Ks 0 [ac,ad,ae]:Prop)]):=kx
theorem QuA (t:LD)(i:Int)(zc za zf gc ga pf:LD)(R:LP)(Ks:KN)(q QQ Qac QW QZ ql_14:QF):QlG t i zc za zf gc ga pf R Ks q QQ Qac QW QZ ql_14=((bif (decide (i<(Int.ofNat t.len))) then (((decide (0≤i))&&(decide (i<(Int.ofNat t.len))))=true∧(bif (decide (((t.at 2 i).f 0).st=bzz [103,108,111,98,97,108,115])) then (((decide (0≤i))&&(decide (i<(Int.ofNat t.len))))=true∧QW [.s ((t.at 2 i).f 1).st] [apK [.l 1,.l 11,.i .i64,.i .i64] fun (aa ab:LD) (ac ad:Int)=>((bif (decide (ad=0)) then QZ [aa,ab] [apK [.i .i64] fun (ae:Int)=>((bif (decide (ae=0)) then R [t,.n (IntKind.i64.wrap (i+1)),zc,za,zf,aa,ab,pf] else R [t,.n (IntKind.i64.wrap (i+1)),zc,za,zf,gc,ga,pf]):Prop)] else R [t,.n (IntKind.i64.wrap (i+1)),zc,za,zf,gc,ga,pf]):Prop)]) else (((decide (0≤i))&&(decide (i<(Int.ofNat t.len))))=true∧Qac [.s ((t.at 2 i).f 1).st] [apK [.s,.l 9,.l 9,.l 8,.i .i64,.i .i64] fun (af:Str) (ab ag ah:LD) (ae ai:Int)=>((bif (!(decide (ai=0))) then R [t,.n (IntKind.i64.wrap (i+1)),zc,za,zf,gc,ga,pf] else (((decide (0≤i))&&(decide (i<(Int.ofNat t.len))))=true∧QQ [.s af,ab,ag,ah,.s ((t.at 2 i).f 0).st] [apK [.s,.l 9,.l 9,.l 8,.i .i64,.i .i64] fun (aj:Str) (ak al am:LD) (an ao:Int)=>((bif (!(decide (ao=0))) then R [t,.n (IntKind.i64.wrap (i+1)),zc,za,zf,gc,ga,pf] else ql_14 [t,.n i,.n (Int.ofNat pf.len),zc,za,zf,gc,ga,pf,.s aj,ak,al,am] [apK [.l 20,.i .i64,.i .i64,.l 1,.l 11,.l 10,.l 1,.l 11,.l 10,.s,.l 9,.l 9,.l 8] fun (ap:LD) (aq ar:Int) (zz au av aw ax ay:LD) (az:Str) (a0 a1 a2:LD)=>(((((decide (0≤ar))&&(decide (ar≤(Int.ofNat ay.len))))&&((decide (ar≤ar))&&(decide (ar≤(Int.ofNat ay.len)))))=true∧(((decide (0≤ar))&&(decide (ar≤(Int.ofNat ay.len))))=true∧(ay=ay∧(ay=ay∧((((1+(ay.sub 4 (some ar.toNat) none none).es.length) * 88)≤140737488355328∧(1+(ay.sub 4 (some ar.toNat) none none).es.length)≤4611686018427387904)∧(ay=ay∧(ay=ay∧((ay.sub 4 none (some ar.toNat) (some ar.toNat)).cap<((ay.sub 4 none (some ar.toNat) (some ar.toNat)).len+([(LD.t [(LD.s az),a0,a1,a2])]++(ay.sub 4 (some ar.toNat) none none).es).length)∧(((((ay.sub 4 none (some ar.toNat) (some ar.toNat)).len+([(LD.t [(LD.s az),a0,a1,a2])]++(ay.sub 4 (some ar.toNat) none none).es).length) * 88)≤140737488355328∧((ay.sub 4 none (some ar.toNat) (some ar.toNat)).len+([(LD.t [(LD.s az),a0,a1,a2])]++(ay.sub 4 (some ar.toNat) none none).es).length)≤4611686018427387904)∧(ay=ay∧(ay=ay∧((((ay.sub 4 none (some ar.toNat) (some ar.toNat)).es++([(LD.t [(LD.s az),a0,a1,a2])]++(ay.sub 4 (some ar.toNat) none none).es))=[]→R [ap,.n (IntKind.i64.wrap (aq+1)),zz,au,av,aw,ax,.nul])∧(∀a3:Go.Addr,(∀a4:Nat,(((ay.sub 4 none (some ar.toNat) (some ar.toNat)).es++([(LD.t [(LD.s az),a0,a1,a2])]++(ay.sub 4 (some ar.toNat) none none).es)).length≤a4→R [ap,.n (IntKind.i64.wrap (aq+1)),zz,au,av,aw,ax,.l a3 a4 ((ay.sub 4 none (some ar.toNat) (some ar.toNat)).es++([(LD.t [(LD.s az),a0,a1,a2])]++(ay.sub 4 (some ar.toNat) none none).es))]))))))))))))))):Prop)]):Prop)])):Prop)]))) else Ks 0 [zc,za,zf,gc,ga,pf])):=kx
theorem QsK (t:LD)(i a:Int)(zc za zf gc ga pf:LD)(fn:Str)(fp fl fb:LD)(R:LP)(Ks:KN)(q QQ Qac QW QZ:QF):QkA t i a zc za zf gc ga pf fn fp fl fb R Ks q QQ Qac QW QZ=((bif (decide (0<a)) then (((decide (0≤(IntKind.i64.wrap (a - 1))))&&(decide ((IntKind.i64.wrap (a - 1))<(Int.ofNat pf.len))))=true∧(bif (Bool.not (Bool.or (Go.Op.bytesLess ((pf.at 4 (IntKind.i64.wrap (a - 1))).f 0).st fn) (decide (((pf.at 4 (IntKind.i64.wrap (a - 1))).f 0).st=fn)))) then R [t,.n i,.n (IntKind.i64.wrap (a - 1)),zc,za,zf,gc,ga,pf,.s fn,fp,fl,fb] else Ks 0 [t,.n i,.n a,zc,za,zf,gc,ga,pf,.s fn,fp,fl,fb])) else Ks 0 [t,.n i,.n a,zc,za,zf,gc,ga,pf,.s fn,fp,fl,fb])):=kx
end Go.Proofs.YtmdppkbekmpopaaGreat
set_option maxHeartbeats 4000000
namespace Go.Proofs.YtmdppkbekmpopaaGreat
open Go Go.Sh Go.Va
def QnA:List LD→Str→Int
 | [],_=>0
 | x::r,s=>if (x.f 0).st=s then (if (x.f 1).bo then 2 else 1) else QnA r s
abbrev QdA (fp fl:LD)(s:Str):Int:=QnA (fp.es++fl.es) s
theorem at_f (l:LD)(z:Nat)(j:Int)(k:Nat):(l.at z j).f k=(l.es.getD j.toNat .nul).f k:=rfl
theorem drop_at {l:List LD}{i:Nat}(h:i<l.length):l.drop i=l.getD i .nul::l.drop (i+1):=by
 rw[List.drop_eq_getElem_cons h,List.getD_eq_getElem?_getD,List.getElem?_eq_getElem h,Option.getD_some]
def Fv (fp fl:LD):Prop:=fp.len≤5000∧fl.len≤5000
def Ql:QF:=fun xs Ks=>∃fn fp fl fb s,xs=[.s fn,fp,fl,fb,.s s]∧Fv fp fl∧nthK Ks 0 [.n (QdA fp fl s)]
def QcV (j:Nat):QF:=fun xs Ks=>∃s l i,xs=[.s s,l,.n i]∧l.len≤10000∧0≤i∧i≤l.len∧(l.len - i:Int).toNat<j∧(QnA (l.es.drop i.toNat) s=0→nthK Ks 0 [])∧nthK Ks 1 [.n (QnA (l.es.drop i.toNat) s)]
variable {fb fl fp:LD}{fn s:Str}
theorem Qjw {f:TelK [.i .i64]}(hv:Fv fp fl)(h:f (QdA fp fl s)):Ql [.s fn,fp,fl,fb,.s s] [apK [.i .i64] f]:=⟨fn,fp,fl,fb,s,rfl,hv,fun _=>h⟩
variable {q:QF}
theorem Qyl {l:LD}{i:Int}{Ks:List LP}{j:Nat}(h:QcV (j+1) [.s s,l,.n i] Ks):Qpn s l i (fun ys=>QcV j ys Ks) (nthK Ks) q:=by
 obtain⟨s_,l_,i_,e,hl,h0,h1,hj,k0,k1⟩:=h
 cases e
 refine Eq.mpr (Qy3 ..) ?_
 refine bifD (fun hc=>?_) fun hc=>k0 ?_
 ·have hc':i<(l.len:Int):=hc
  have hlt:i.toNat<l.es.length:=by have:l.len=l.es.length:=rfl;omega
  have e1:IntKind.i64.wrap (i+1)=i+1:=QJ om om
  rw[drop_at hlt] at k0 k1
  simp only[QnA] at k0 k1
  simp only[at_f,e1]
  refine⟨decC h0 hc',bifD (fun hn=>⟨decC h0 hc',bifI (fun hb=>?_) fun hb=>?_⟩) fun hn=>?_⟩
  ·rw[if_pos hn,if_pos hb] at k1;exact k1
  ·rw[if_pos hn,if_neg (by rw[hb];decide)] at k1;exact k1
  ·rw[if_neg hn] at k0 k1
   have e2:(i+1).toNat=i.toNat+1:=om
   exact⟨s,l,i+1,rfl,hl,om,om,om,by rw[e2];exact k0,by rw[e2];exact k1⟩
 ·have:¬i<(l.len:Int):=hc
  have hl2:l.len=l.es.length:=rfl
  rw[List.drop_eq_nil_of_le om];rfl
variable {Ks:KN}
theorem QBz (hv:Fv fp fl)(hk:Ks 0 [.n (QdA fp fl s)]):Qtc fn fp fl fb s Ks q (fun xs Ks=>∃j,QcV j xs Ks):=by
 refine Eq.mpr (QCH ..) ?_
 obtain⟨h1,h2⟩:=hv
 have h1':fp.es.length≤5000:=h1
 have h2':fl.es.length≤5000:=h2
 refine⟨om,rfl,om,fun he=>?_,fun a c hc=>?_⟩
 ·have hz:QdA fp fl s=0:=by show QnA (fp.es++fl.es) s=0;rw[he];rfl
  rw[hz] at hk
  exact⟨_,s,.nul,0,rfl,zo,om,by simp[LD.len,LD.es],nl,fun _ _=>hk,fun _=>hk⟩
 ·refine⟨_,s,_,0,rfl,?_,om,om,nl,fun h _=>?_,fun _=>hk⟩
  ·show (fp.es++fl.es).length≤10000
   rw[List.length_append];omega
  ·have hz:QdA fp fl s=0:=h
   rw[hz] at hk;exact hk
def WE0 (e:LD):Prop:=e=.nul∨WE e
def WC0 (e:LD):Prop:=e=.nul∨WC e
def QT:QF:=fun xs Ks=>∃fn fp fl fb e,xs=[.s fn,fp,fl,fb,e]∧Fv fp fl∧(e.is=true→(e.f 0).i=1→QdA fp fl (e.f 2).st=2→nthK Ks 0 [.b true])∧nthK Ks 0 [.b false]
variable {e:LD}{f:TelK [.b]}
theorem Qzo (hv:Fv fp fl)(h1:e.is=true→(e.f 0).i=1→QdA fp fl (e.f 2).st=2→f true)(h2:f false):QT [.s fn,fp,fl,fb,e] [apK [.b] f]:=⟨fn,fp,fl,fb,e,rfl,hv,fun a b c _=>h1 a b c,fun _=>h2⟩
theorem QwQ (hv:Fv fp fl)(h1:e.is=true→(e.f 0).i=1→QdA fp fl (e.f 2).st=2→Ks 0 [.b true])(h2:Ks 0 [.b false]):QnU fn fp fl fb e Ks q Ql:=by
 refine Eq.mpr (QxP ..) ?_
 exact bifI (fun he=>⟨he,bifD (fun h0=>⟨he,Qjw hv <| bifD (fun hk=>h1 he h0 hk) fun _=>h2⟩) fun _=>h2⟩) fun _=>h2
def QdH (k:Nat):QF:=fun xs Ks=>∃fn fp fl fb e,xs=[.s fn,fp,fl,fb,e]∧Fv fp fl∧WE0 e∧SizeOf.sizeOf e<k∧∀b,nthK Ks 0 [.b b]
variable {k:Nat}
theorem QBp (hv:Fv fp fl)(he:WE0 e)(hk:SizeOf.sizeOf e<k)(h:∀b:Bool,f b):QdH k [.s fn,fp,fl,fb,e] [apK [.b] f]:=⟨fn,fp,fl,fb,e,rfl,hv,he,hk,fun b _=>h b⟩
theorem QBl (h:WE e):WE0 (e.f 3)∧WE0 (e.f 4)∧SizeOf.sizeOf (e.f 3)<SizeOf.sizeOf e∧SizeOf.sizeOf (e.f 4)<SizeOf.sizeOf e∧e.is=true:=by
 cases h with
 | num a n=>refine⟨.inl rfl,.inl rfl,?_,?_,rfl⟩<;>simp[LD.f,LD.cs]<;>omega
 | var a s hs=>refine⟨.inl rfl,.inl rfl,?_,?_,rfl⟩<;>simp[LD.f,LD.cs]<;>omega
 | bin a k x y h1 h2 hx hy=>refine⟨.inr hx,.inr hy,?_,?_,rfl⟩<;>simp[LD.f,LD.cs]<;>omega
 | neg a x hx=>refine⟨.inr hx,.inl rfl,?_,?_,rfl⟩<;>simp[LD.f,LD.cs]<;>omega
theorem QBA (hv:Fv fp fl)(he:WE0 e)(hs:SizeOf.sizeOf e<k+1)(hk:∀b,Ks 0 [.b b]):Qtd fn fp fl fb e Ks q Ql (QdH k):=by
 refine Eq.mpr (QCI ..) ?_
 rcases he with rfl | he
 ·exact hk _
 ·obtain⟨p1,p2,p3,p4,p5⟩:=QBl he
  rw[p5]
  exact⟨rfl,bifD (fun _=>⟨rfl,Qjw hv <| bifN (fun _=>hk _) fun _=>hk _⟩) fun _=>⟨rfl,QBp hv p1 om fun b=>bifI (fun _=>⟨rfl,QBp hv p2 om fun b=>bifI (fun _=>hk _) fun _=>hk _⟩) fun _=>hk _⟩⟩
def Qu:QF:=fun xs Ks=>∃k,QdH k xs Ks
theorem Qoc (hv:Fv fp fl)(he:WE0 e)(h:∀b:Bool,f b):Qu [.s fn,fp,fl,fb,e] [apK [.b] f]:=⟨_,QBp hv he (nl) h⟩
def Qdd (k:Nat):QF:=fun xs Ks=>∃fn fp fl fb e,xs=[.s fn,fp,fl,fb,e]∧Fv fp fl∧WC0 e∧SizeOf.sizeOf e<k∧∀b,nthK Ks 0 [.b b]
theorem Qye (hv:Fv fp fl)(he:WC0 e)(hk:SizeOf.sizeOf e<k)(h:∀b:Bool,f b):Qdd k [.s fn,fp,fl,fb,e] [apK [.b] f]:=⟨fn,fp,fl,fb,e,rfl,hv,he,hk,fun b _=>h b⟩
theorem QBm (h:WC e):WE0 (e.f 1)∧WE0 (e.f 2)∧WC0 (e.f 3)∧WC0 (e.f 4)∧SizeOf.sizeOf (e.f 3)<SizeOf.sizeOf e∧SizeOf.sizeOf (e.f 4)<SizeOf.sizeOf e∧e.is=true:=by
 cases h with
 | cmp a k x y h1 h2 hx hy=>refine⟨.inr hx,.inr hy,.inl rfl,.inl rfl,?_,?_,rfl⟩<;>simp[LD.f,LD.cs]<;>omega
 | two a k p q h1 h2 hp hq=>refine⟨.inl rfl,.inl rfl,.inr hp,.inr hq,?_,?_,rfl⟩<;>simp[LD.f,LD.cs]<;>omega
 | not a p hp=>refine⟨.inl rfl,.inl rfl,.inr hp,.inl rfl,?_,?_,rfl⟩<;>simp[LD.f,LD.cs]<;>omega
 | null a s hs=>refine⟨.inl rfl,.inl rfl,.inl rfl,.inl rfl,?_,?_,rfl⟩<;>simp[LD.f,LD.cs]<;>omega
theorem QzU (hv:Fv fp fl)(he:WC0 e)(hs:SizeOf.sizeOf e<k+1)(hk:∀b,Ks 0 [.b b]):QqN fn fp fl fb e Ks q Ql Qu (Qdd k):=by
 refine Eq.mpr (QAB ..) ?_
 rcases he with rfl | he
 ·exact hk _
 ·obtain⟨p1,p2,p3,p4,p5,p6,p7⟩:=QBm he
  rw[p7]
  repeat' first
   | exact hk _
   | refine⟨rfl,?_⟩
   | refine bifD (fun _=>?_) (fun _=>?_)
   | refine bifN (fun _=>?_) (fun _=>?_)
   | refine Qjw hv ?_
   | refine Qoc hv p1 (fun b=>?_)
   | refine Qoc hv p2 (fun b=>?_)
   | refine Qye hv p3 om (fun b=>?_)
   | refine Qye hv p4 om (fun b=>?_)
   | refine bifI (fun _=>?_) (fun _=>?_)
def QL:QF:=fun xs Ks=>∃k,Qdd k xs Ks
theorem QG8 (hv:Fv fp fl)(he:WC0 e)(h:∀b:Bool,f b):QL [.s fn,fp,fl,fb,e] [apK [.b] f]:=⟨_,Qye hv he (nl) h⟩
end Go.Proofs.YtmdppkbekmpopaaGreat
namespace Go.Proofs.YtmdppkbekmpopaaGreat
open Go Go.Sh Go.Va
def knE (x:LD)(kn:List LD):List LD:=upE (x.f 0).st (.t [.s (x.f 0).st,.n (bif (x.f 1).bo then 2 else 1)]) kn
def knL:List LD→List LD→List LD
 | [],kn=>kn
 | x::r,kn=>knL r (knE x kn)
def Q2:QF:=fun xs Ks=>∃fn fp fl fb,xs=[.s fn,fp,fl,fb]∧Fv fp fl∧nthK Ks 0 [.t (fp.es++fl.es)]
def Qal:QF:=fun xs Ks=>∃fn fp fl fb,xs=[.s fn,fp,fl,fb]∧Fv fp fl∧nthK Ks 0 [.t (knL (fp.es++fl.es) [])]
def QaV (j:Nat):QF:=fun xs Ks=>∃n i w kn,xs=[.n n,.n i,.t w,.t kn]∧n=(w.length:Int)∧w.length≤10000∧0≤i∧i≤n∧(kn.length:Int)≤i∧(n - i).toNat<j∧nthK Ks 0 [.t w,.t (knL (w.drop i.toNat) kn)]
variable {Ks:KN}{fb fl fp:LD}{fn:Str}{q:QF}
theorem Qvx (hv:Fv fp fl)(hk:Ks 0 [.t (fp.es++fl.es)]):Qm8 fn fp fl fb Ks q:=by
 refine Eq.mpr (Qwj ..) ?_
 obtain⟨h1,h2⟩:=hv
 have h1':fp.es.length≤5000:=h1
 have h2':fl.es.length≤5000:=h2
 have l1:fp.len=fp.es.length:=rfl
 have l2:fl.len=fl.es.length:=rfl
 have e1:IntKind.i64.wrap (Int.ofNat fp.len+Int.ofNat fl.len)=((fp.es.length+fl.es.length:Nat):Int):=by
  rw[l1,l2]
  show IntKind.i64.wrap ((fp.es.length:Int)+(fl.es.length:Int))=_
  rw[QJ om om];omega
 rw[e1]
 refine bifD (fun h=>by omega) fun _=>bifD (fun h=>by omega) fun _=>bifD (fun h=>?_) fun h=>?_
 ·refine⟨⟨h,om,om⟩,⟨om,zo⟩,⟨om,om⟩,⟨?_,?_⟩,hk⟩
  ·rw[List.length_append];simp only[List.length_nil];omega
  ·rw[List.length_append];simp only[List.length_nil];omega
 ·exact⟨⟨om,om⟩,⟨om,om⟩,hk⟩
theorem QEH {f:TelK [.r 9]}(hv:Fv fp fl)(h:f (fp.es++fl.es)):Q2 [.s fn,fp,fl,fb] [apK [.r 9] f]:=⟨fn,fp,fl,fb,rfl,hv,fun _=>h⟩
theorem Qq1 {n i:Int}{w kn:List LD}{Ks:List LP}{q1:QF}{j:Nat}(h:QaV (j+1) [.n n,.n i,.t w,.t kn] Ks):Qi3 n i w kn (fun ys=>QaV j ys Ks) (nthK Ks) q q1:=by
 obtain⟨n_,i_,w_,kn_,e,hn,hl,h0,h1,h2,hj,hk⟩:=h
 cases e
 subst hn
 refine Eq.mpr (Qrk ..) ?_
 refine bifD (fun hc=>?_) fun hc=>?_
 ·have hlt:i.toNat<w.length:=om
  have e1:IntKind.i64.wrap (i+1)=i+1:=QJ om om
  have e2:(i+1).toNat=i.toNat+1:=om
  rw[drop_at hlt] at hk
  rw[e1]
  have step:∀v:Int,(bif ((w.getD i.toNat .nul).f 1).bo then 2 else 1)=v→QaV j [.n (w.length:Int),.n (i+1),.t w,.t (upE ((w.getD i.toNat .nul).f 0).st (.t [.s ((w.getD i.toNat .nul).f 0).st,.n v]) kn)] Ks:=fun v hv=>by
   have hle:=Qi6 ((w.getD i.toNat .nul).f 0).st (.t [.s ((w.getD i.toNat .nul).f 0).st,.n v]) kn
   refine⟨_,i+1,w,_,rfl,rfl,hl,om,om,om,om,?_⟩
   rw[e2,←hv]
   exact hk
  exact⟨decC h0 hc,bifI (fun hb=>⟨om,step 2 (by rw[hb];rfl)⟩) fun hb=>⟨om,step 1 (by rw[hb];rfl)⟩⟩
 ·rw[List.drop_eq_nil_of_le om] at hk
  exact hk
theorem Qt0 (hv:Fv fp fl)(hk:Ks 0 [.t (knL (fp.es++fl.es) [])]):QlM fn fp fl fb Ks q Q2 (fun xs Ks=>∃j,QaV j xs Ks):=by
 refine Eq.mpr (QuG ..) ?_
 refine QEH hv ?_
 obtain⟨h1,h2⟩:=hv
 have h1':fp.es.length≤5000:=h1
 have h2':fl.es.length≤5000:=h2
 refine⟨_,_,0,fp.es++fl.es,[],rfl,rfl,?_,om,Int.natCast_nonneg _,by simp,nl,fun _=>hk⟩
 rw[List.length_append];omega
end Go.Proofs.YtmdppkbekmpopaaGreat
namespace Go.Proofs.YtmdppkbekmpopaaGreat
open Go Go.Sh Go.Va
structure KdS (fp fl:LD)(k:Int)(X Y:Str):Prop where
 x:(k=0∨k=4∨k=6→QdA fp fl X≠2)∧(k=1∨k=2∨k=3∨k=5→QdA fp fl X=2)∧(k=8→X=[]∨QdA fp fl X≠2)
 y:(k=2∨k=4→QdA fp fl Y=2)∧(k=1∨k=6∨k=7∨k=8→QdA fp fl Y=0)
def WA2 (d:LD):Prop:=WA d∨∃s,d=.t [.b true,.s s,.nul]∧Nm s
structure ResS (fp fl:LD)(k:Int)(X Y:Str)(E F C ar th el:LD)(th0 el0:LD)(m0:Nat):Prop where
 s:OkS k X Y E F C ar th el
 k:KdS fp fl k X Y
 a:∀x∈ar.es,WA2 x
 t:(th=th0∨th=.nul)∧(el=el0∨el=.nul)
 m:nN E+nN F+nN C+nN ar≤m0
def Qak:QF:=fun xs Ks=>∃fn fp fl fb k X Y E F C ar th el n,xs=[.s fn,fp,fl,fb,.n k,.s X,.s Y,E,F,C,ar,th,el,.n n]∧Fv fp fl∧OkS k X Y E F C ar th el∧(∀x∈ar.es,WA x) ∧
 ∀(k':Int) (X' Y':Str) (E' F' C' ar' th' el':LD) (n':Int) (b:Bool),(b=true→ResS fp fl k' X' Y' E' F' C' ar' th' el' th el (nN E+nN F+nN C+nN ar))→nthK Ks 0 [.n k',.s X',.s Y',E',F',C',ar',th',el',.n n',.b b]
variable {w:List LD}
theorem wa2 (h:∀x∈w,WA x):∀x∈w,WA2 x:=fun x hx=>.inl (h x hx)
variable {C E F ar el fl fp th:LD}{X Y:Str}
theorem QJp {th0 el0:LD}{m0:Nat}(hS:OkS 0 X Y E F C ar th el)(hX:QdA fp fl X=2)(he:(E.f 0).i=1)(hk:QdA fp fl (E.f 2).st=2):ResS fp fl 2 X (E.f 2).st .nul .nul .nul .nul .nul .nul th0 el0 m0:=by
 have hE:=hS.e.1 (.inl rfl)
 have hN:Nm (E.f 2).st:=by
  cases hE with
  | num a n=>simp[LD.f,LD.cs,LD.i] at he
  | var a s hs=>exact hs
  | bin a k x y h1 h2 hx hy=>simp[LD.f,LD.cs,LD.i] at he;omega
  | neg a x hx=>simp[LD.f,LD.cs,LD.i] at he
 exact⟨⟨om,⟨fun _=>hS.x.1 om,om,om⟩,⟨fun _=>hN,om⟩,⟨om,fun _=>rfl⟩,⟨om,fun _=>rfl⟩,⟨om,fun _=>rfl⟩,fun _=>rfl,⟨fun _=>rfl,fun _=>rfl⟩,⟨zo,zo,zo⟩⟩,⟨⟨om,fun _=>hX,om⟩,⟨fun _=>hk,om⟩⟩,(fun x h=>by cases h),⟨.inr rfl,.inr rfl⟩,zo⟩
variable {k:Int}
theorem QIJ (hS:OkS k X Y E F C ar th el)(ha:∀x∈ar.es,WA x)(hk:KdS fp fl k X Y):ResS fp fl k X Y E F C ar th el th el (nN E+nN F+nN C+nN ar):=⟨hS,hk,wa2 ha,⟨.inl rfl,.inl rfl⟩,nr⟩
def QaU (j:Nat):QF:=fun xs Ks=>∃ok i fn fp fl fb k X Y E F C ar th el n z0 z1 z2 z3 z4 z5 z6 z7 z8 z9 w,xs=[.b ok,.n i,.s fn,fp,fl,fb,.n k,.s X,.s Y,E,F,C,ar,th,el,.n n,.n z0,.s z1,.s z2,z3,z4,z5,z6,z7,z8,.n z9,.t w]∧Fv fp fl∧w.length≤4096∧(∀x∈w,WA2 x)∧0≤i∧i≤(w.length:Int)∧(w.length - i:Int).toNat<j ∧
 ∀(ok':Bool) (w':List LD),(ok'=true→ok=true)→w'.length=w.length→(∀x∈w',WA2 x)→nNL w'≤nNL w→nthK Ks 0 [.b ok',.s fn,fp,fl,fb,.n k,.s X,.s Y,E,F,C,ar,th,el,.n n,.n z0,.s z1,.s z2,z3,z4,z5,z6,z7,z8,.n z9,.t w']
variable {i:Nat}
theorem QJX (h:∀x∈w,WA2 x)(hi:i<w.length):WA2 (w.getD i .nul):=h _ (by rw[List.getD_eq_getElem?_getD,List.getElem?_eq_getElem hi];exact List.getElem_mem hi)
variable {x:LD}
theorem QDN (h:WA2 x):WE0 (x.f 2):=by
 rcases h with⟨e,rfl,he⟩ | ⟨s,rfl,_⟩
 ·exact .inr he
 ·exact .inl rfl
theorem QJW (h:WA2 x)(hi:(x.f 2).is=true)(hk:((x.f 2).f 0).i=1):WA2 (x.upd 0 [.b true,.s ((x.f 2).f 2).st,.nul]):=by
 rcases h with⟨e,rfl,he⟩ | ⟨s,rfl,_⟩
 ·refine .inr ⟨_,rfl,?_⟩
  have hk':(e.f 0).i=1:=hk
  show Nm (e.f 2).st
  cases he with
  | num a n=>simp[LD.f,LD.cs,LD.i] at hk'
  | var a s hs=>exact hs
  | bin a k x y h1 h2 hx hy=>simp[LD.f,LD.cs,LD.i] at hk';omega
  | neg a x hx=>simp[LD.f,LD.cs,LD.i] at hk'
 ·cases hi
theorem QJY {s:Str}(h:WA2 x):nN (x.upd 0 [.b true,.s s,.nul])≤nN x:=by
 rcases h with⟨e,rfl,he⟩ | ⟨s,rfl,_⟩<;>simp[LD.upd,LD.cs,nN,nNL]
theorem QD6:∀ {w:List LD}{i:Nat}{x:LD},nN x≤nN (w.getD i .nul)→nNL (w.set i x)≤nNL w
 | [],_,_,_=>by simp[nNL]
 | y::r,0,x,h=>by
  have h':nN x≤nN y:=by simpa using h
  simp only[List.set_cons_zero,nNL];omega
 | y::r,i+1,x,h=>by
  have:=QD6 (w:=r) (i:=i) (x:=x) (by simpa using h)
  simp only[List.set_cons_succ,nNL];omega
theorem QIY {P:LD→Prop}(h:∀y∈w,P y)(hx:P x):∀y∈w.set i x,P y:=fun y hy=>by
 rcases List.mem_or_eq_of_mem_set hy with h1 | rfl
 ·exact h y h1
 ·exact hx
variable {fb z3 z4 z5 z6 z7 z8:LD}{fn z1 z2:Str}{n z0 z9:Int}{ok:Bool}{q:QF}
theorem QwP {i:Int}{Ks:List LP}{q1:QF}{j:Nat}
  (h:QaU (j+1) [.b ok,.n i,.s fn,fp,fl,fb,.n k,.s X,.s Y,E,F,C,ar,th,el,.n n,.n z0,.s z1,.s z2,z3,z4,z5,z6,z7,z8,.n z9,.t w] Ks) :
  QnT ok i fn fp fl fb k X Y E F C ar th el n z0 z1 z2 z3 z4 z5 z6 z7 z8 z9 w (fun ys=>QaU j ys Ks) (nthK Ks) q Ql QT Qu q1:=by
 obtain⟨ok_,i_,fn_,fp_,fl_,fb_,k_,X_,Y_,E_,F_,C_,ar_,th_,el_,n_,z0_,z1_,z2_,z3_,z4_,z5_,z6_,z7_,z8_,z9_,w_,eq,hv,hw,ha,h0,h1,hj,hk⟩:=h
 cases eq
 refine Eq.mpr (QxO ..) ?_
 refine bifD (fun hc=>?_) fun hc=>hk ok w id rfl ha (nr)
 have hc':i<(w.length:Int):=hc
 have hi:i.toNat<w.length:=om
 have ei:IntKind.i64.wrap (i+1)=i+1:=QJ om om
 rw[ei]
 have hd:=decB h0 hc
 have hx:=QJX ha hi
 have go:∀(ok':Bool) (w':List LD),(ok'=true→ok=true)→w'.length=w.length→(∀x∈w',WA2 x)→nNL w'≤nNL w→QaU j [.b ok',.n (i+1),.s fn,fp,fl,fb,.n k,.s X,.s Y,E,F,C,ar,th,el,.n n,.n z0,.s z1,.s z2,z3,z4,z5,z6,z7,z8,.n z9,.t w'] Ks:=fun ok' w' a b c d=>
  ⟨ok',i+1,fn,fp,fl,fb,k,X,Y,E,F,C,ar,th,el,n,z0,z1,z2,z3,z4,z5,z6,z7,z8,z9,w',rfl,hv,om,c,om,om,om,fun ok2 w2 a2 b2 c2 d2=>hk ok2 w2 (fun h=>a (a2 h)) om c2 (Nat.le_trans d2 d)⟩
 refine⟨hd,bifI (fun hp=>?_) fun hp=>?_⟩
 ·refine bifI (fun ho=>⟨hd,Qjw hv ⟨⟨rfl,rfl⟩,bifD (fun _=>?_) fun _=>?_⟩⟩) fun ho=>?_
  ·exact go _ _ (fun _=>ho) rfl ha (nr)
  ·exact go _ _ (fun h=>by cases h) rfl ha (nr)
  ·exact go _ _ (fun h=>by cases h) rfl ha (nr)
 ·refine⟨hd,Qzo hv (fun h1 h2 h3=>?_) ?_⟩
  ·exact⟨hd,h1,hd,go _ _ id (by rw[List.length_set]) (QIY ha (QJW hx h1 h2)) (QD6 (QJY hx))⟩
  ·with_reducible refine bifF ?_
   refine bifI (fun ho=>⟨hd,Qoc hv (QDN hx) fun b=>bifI (fun _=>⟨⟨rfl,rfl⟩,?_⟩) fun _=>⟨⟨rfl,rfl⟩,?_⟩⟩) fun ho=>?_
   ·exact go _ _ (fun _=>ho) rfl ha (nr)
   ·exact go _ _ (fun h=>by cases h) rfl ha (nr)
   ·exact go _ _ (fun h=>by cases h) rfl ha (nr)
theorem u_29 {f:TelK [.b,.s,.l 9,.l 9,.l 8,.i .i64,.s,.s,.p 5,.p 5,.p 6,.l 7,.l 8,.l 8,.i .i64,.i .i64,.s,.s,.p 5,.p 5,.p 6,.l 7,.l 8,.l 8,.i .i64,.r 7]}(hv:Fv fp fl)(hw:w.length≤4096)(ha:∀x∈w,WA2 x)
  (h:∀(ok':Bool) (w':List LD),(ok'=true→ok=true)→w'.length=w.length→(∀x∈w',WA2 x)→nNL w'≤nNL w→f ok' fn fp fl fb k X Y E F C ar th el n z0 z1 z2 z3 z4 z5 z6 z7 z8 z9 w') :
  ∃j,QaU j [.b ok,.n 0,.s fn,fp,fl,fb,.n k,.s X,.s Y,E,F,C,ar,th,el,.n n,.n z0,.s z1,.s z2,z3,z4,z5,z6,z7,z8,.n z9,.t w] [apK [.b,.s,.l 9,.l 9,.l 8,.i .i64,.s,.s,.p 5,.p 5,.p 6,.l 7,.l 8,.l 8,.i .i64,.i .i64,.s,.s,.p 5,.p 5,.p 6,.l 7,.l 8,.l 8,.i .i64,.r 7] f]:=
 ⟨_,ok,0,fn,fp,fl,fb,k,X,Y,E,F,C,ar,th,el,n,z0,z1,z2,z3,z4,z5,z6,z7,z8,z9,w,rfl,hv,hw,ha,om,om,nl,fun ok' w' a b c d _=>h ok' w' a b c d⟩
theorem QtK {ar':LD}(hS:OkS 8 X Y E F C ar th el)(hX:X=[]∨QdA fp fl X≠2)(hY:QdA fp fl Y=0)(hl:ar'.len≤4096)(ha:∀x∈ar'.es,WA2 x)(hm:nN ar'≤nN ar):ResS fp fl 8 X Y E F C ar' th el th el (nN E+nN F+nN C+nN ar):=
 ⟨⟨hS.k0,hS.x,hS.y,hS.e,hS.f,hS.c,fun h=>absurd rfl h,hS.t,⟨hl,hS.n.2⟩⟩,⟨⟨om,om,fun _=>hX⟩,⟨om,fun _=>hY⟩⟩,ha,⟨.inl rfl,.inl rfl⟩,om⟩
attribute [local irreducible] Ql QT Qu QL QaU
theorem QBy {Ks:KN}(hv:Fv fp fl)(hS:OkS k X Y E F C ar th el)(ha:∀x∈ar.es,WA x)
  (hk:∀(k':Int) (X' Y':Str) (E' F' C' ar' th' el':LD) (n':Int) (b:Bool),(b=true→ResS fp fl k' X' Y' E' F' C' ar' th' el' th el (nN E+nN F+nN C+nN ar))→Ks 0 [.n k',.s X',.s Y',E',F',C',ar',th',el',.n n',.b b]) :
  Qtb fn fp fl fb k X Y E F C ar th el n Ks q Ql QT Qu QL (fun xs Ks=>∃j,QaU j xs Ks):=by
 refine Eq.mpr (QCG ..) ?_
 have hn:ar.es.length≤4096:=hS.n.1
 have e0:WE0 E:=by
  by_cases h:k=0∨k=5∨k=6∨k=7∨k=9
  ·exact .inr (hS.e.1 h)
  ·exact .inl (hS.e.2 h)
 have f0:WE0 F:=by
  by_cases h:k=7
  ·exact .inr (hS.f.1 h)
  ·exact .inl (hS.f.2 h)
 have c0:WC0 C:=by
  by_cases h:10≤k
  ·exact .inr (hS.c.1 h)
  ·exact .inl (hS.c.2 om)
 refine Qjw hv ⟨rfl,⟨rfl,rfl,rfl,rfl,trivial⟩,Qjw hv ?_⟩
 have fls:∀(k':Int) (X' Y':Str) (E' F' C' ar' th' el':LD) (n':Int),Ks 0 [.n k',.s X',.s Y',E',F',C',ar',th',el',.n n',.b false]:=fun k' X' Y' E' F' C' ar' th' el' n'=>hk k' X' Y' E' F' C' ar' th' el' n' false (fun h=>by cases h)
 repeat' first
  | exact fls _ _ _ _ _ _ _ _ _ _
  | exact hk _ _ _ _ _ _ _ _ _ _ _ (fun _=>QIJ hS ha ⟨⟨om,om,om⟩,⟨om,om⟩⟩)
  | exact hk _ _ _ _ _ _ _ _ _ _ _ (fun _=>QJp (by rw[←h0];exact hS) om h1 h2)
  | exact hk _ _ _ _ _ _ _ _ _ _ _ (fun _=>by subst h0;exact QtK hS (.inl hX) om (zo) (fun x h=>by cases h) (zo))
  | exact hk _ _ _ _ _ _ _ _ _ _ _ (fun _=>by subst h0;exact QtK hS (.inr om) om (zo) (fun x h=>by cases h) (zo))
  | exact hk _ _ _ _ _ _ _ _ _ _ _ (fun _=>by subst h0;exact QtK hS (.inl hX) om (by show w'.length≤4096;omega) hw2 (Nat.le_trans hw3 (QoI ar)))
  | exact hk _ _ _ _ _ _ _ _ _ _ _ (fun _=>by subst h0;exact QtK hS (.inr om) om (by show w'.length≤4096;omega) hw2 (Nat.le_trans hw3 (QoI ar)))
  | exact hk _ _ _ _ _ _ _ _ _ _ _ (fun _=>by cases hok (by assumption))
  | with_reducible refine bifT ?_
  | with_reducible refine bifF ?_
  | refine u_29 hv hn (wa2 ha) (fun ok' w' hok hw1 hw2 hw3=>?_)
  | refine⟨⟨om,om⟩,?_⟩
  | refine⟨by assumption,?_⟩
  | (refine bifN (fun hc=>?_) (fun hc=>?_))
  | (refine bifD (p:=k=_) (fun h0=>?_) (fun hc=>?_))
  | (refine bifD (p:=X=_) (fun hX=>?_) (fun hc=>?_))
  | (refine bifD (fun hc=>?_) (fun hc=>?_))
  | refine Qjw hv ?_
  | refine Qzo hv (fun h3 h1 h2=>?_) ?_
  | refine Qoc hv e0 (fun b=>?_)
  | refine Qoc hv f0 (fun b=>?_)
  | refine QG8 hv c0 (fun b=>?_)
  | refine⟨fun hnil=>?_,fun aa cc hcc=>?_⟩
  | refine bifI (fun hb=>?_) (fun hb=>?_)
end Go.Proofs.YtmdppkbekmpopaaGreat
