import Derived.Test.YtmdppkbekmpopaaGreatNk
set_option linter.unusedVariables false
set_option linter.unusedSimpArgs false
set_option linter.unusedSectionVars false
set_option maxRecDepth 100000
noncomputable section
namespace Go.Proofs.YtmdppkbekmpopaaGreat
open Go Go.Sh Go.Va
def Qgu (q:QF):Ctr:=⟨⟨[.a [zS,zL 9,zL 9,zL 8]],[]⟩,[⟨[.s 0 9],[.r 9]⟩],q⟩
def QfY (q:QF):Ctr:=⟨⟨[.a [zS,zL 9,zL 9,zL 8]],[]⟩,[⟨[.a [.m 0 25 false]],[.m 25 false]⟩],q⟩
def Qci (q:QF):LCt:=⟨3,[2,3,9,10,11],[(some 0,[2,3,9])],⟨⟨[.p 0 0,.p 1 0,.s 2 9,zI,zI],[.c [.x (.nilm)] 0,.c [.m 3 25 false] 0,.r 9,.m 25 false]⟩,[⟨[.p 0 0,.p 1 0,.s 2 9],[.c [.x (.nilm)] 0,.c [.m 3 25 false] 0,.r 9,.m 25 false]⟩],q⟩⟩
def QeZ (q:QF):Ctr:=⟨⟨[.a [zS,zL 9,zL 9,zL 8]],[]⟩,[⟨[.a [.m 0 25 false,.m 1 26 true]],[.m 25 false,.m 26 true]⟩],q⟩
def QbH (q:QF):Ctr:=⟨⟨[.a [.m 0 25 false],zL 8,.f (.func 76) [] [.p 1 0]],[.m 25 false,.c [.m 0 25 false,.m 2 26 true] 0,.m 26 true]⟩,[⟨[zB],[.m 25 false,.c [.m 0 25 false,.m 2 26 true] 0,.m 26 true]⟩],q⟩
def Qbm (q:QF):LCt:=⟨2,[2,3,9,10,11],[(some 0,[]),(none,[6])],⟨⟨[.f (.func 76) [] [.p 0 0],.p 1 0,zL 8,zI,zI],[.c [.m 2 25 false,.m 3 26 true] 0,.c [.m 2 25 false] 0,.m 25 false,.m 26 true]⟩,[⟨[],[.c [.m 2 25 false,.m 3 26 true] 0,.c [.m 2 25 false] 0,.m 25 false,.m 26 true]⟩,⟨[zB],[.c [.m 2 25 false,.m 3 26 true] 0,.c [.m 2 25 false] 0,.m 25 false,.m 26 true]⟩],q⟩⟩
def Qc5 (q:QF):Ctr:=⟨⟨[.a [.m 0 25 false,.m 1 26 true]],[.m 25 false,.m 26 true]⟩,[⟨[.s 2 1],[.m 25 false,.m 26 true,.r 1]⟩],q⟩
def Qjn (q:QF):Ctr:=⟨⟨[.a [zS,zL 9,zL 9,zL 8]],[]⟩,[⟨[.s 0 1],[.r 1]⟩],q⟩
def QjB:Tr FFn:=(.node 232 (.leaf 203 QnD) (.leaf 232 Qqq))
def Qfg (Q2:QF):Tr FFn:=(.leaf 163 (.q (Qgu Q2)))
def Qhc (Qal:QF):Tr FFn:=(.leaf 121 (.q (QfY Qal)))
def QdE (Qs:QF):Tr FFn:=(.node 77 (.node 76 (.leaf 75 (.q (QbH Qs))) (.leaf 76 QnH)) (.node 122 (.leaf 77 QeL) (.node 123 (.leaf 122 QgA) (.leaf 123 Qhj))))
def Qnj (Q9 Qs QO:QF):Tr FFn:=(.node 75 (.leaf 74 (.q (QeZ Q9))) (.node 78 (.leaf 75 (.q (QbH Qs))) (.leaf 78 (.q (Qc5 QO)))))
def Qm8:=fun (fn:Str) (fp:LD) (fl:LD) (fb:LD) (Ks:KN) (q:QF)=>QG QjB [] Qmw (Qgu q) [.s fn,fp,fl,fb] Ks
def QlM:=fun (fn:Str) (fp:LD) (fl:LD) (fb:LD) (Ks:KN) (q Q2 ql_3:QF)=>QG (Qfg Q2) [Qci ql_3] Qll (QfY q) [.s fn,fp,fl,fb] Ks
def Qi3:=fun (n:Int) (i:Int) (w:List LD) (kn:List LD) (R:LP) (Ks:KN) (q Q2:QF)=>Qaa (Qfg Q2) [] Qcq Qic (Qci q) [.n n,.n i,.t w,.t kn] R Ks
def Qi4:=fun (fn:Str) (fp:LD) (fl:LD) (fb:LD) (Ks:KN) (q Qal:QF)=>QG (Qhc Qal) [] QiT (QeZ q) [.s fn,fp,fl,fb] Ks
def Qhz:=fun (l:LD) (kn:List LD) (fd:List LD) (Ks:KN) (q Qs ql_2:QF)=>QG (QdE Qs) [Qbm ql_2] Qhi (QbH q) [l,.t kn,.t fd] Ks
def Qge:=fun (l:LD) (n:Int) (i:Int) (kn:List LD) (fd:List LD) (R:LP) (Ks:KN) (q Qs:QF)=>Qaa (QdE Qs) [] Qba QfU (Qbm q) [l,.n n,.n i,.t kn,.t fd] R Ks
def QqS:=fun (fn:Str) (fp:LD) (fl:LD) (fb:LD) (Ks:KN) (q Q9 Qs QO:QF)=>QG (Qnj Q9 Qs QO) [] Qqz (Qjn q) [.s fn,fp,fl,fb] Ks
abbrev K0Nt:List CK:=[.b,.r 25,.r 26]
theorem Qwj (fn:Str)(fp fl fb:LD)(Ks:KN)(q:QF):Qm8 fn fp fl fb Ks q=((bif (decide ((IntKind.i64.wrap ((Int.ofNat fp.len)+(Int.ofNat fl.len)))<0)) then False else (bif (decide ((IntKind.i64.wrap ((Int.ofNat fp.len)+(Int.ofNat fl.len)))<0)) then False else (bif (decide (0<((IntKind.i64.wrap ((Int.ofNat fp.len)+(Int.ofNat fl.len))) - 0))) then (((0:Int)<((IntKind.i64.wrap ((Int.ofNat fp.len)+(Int.ofNat fl.len))) - 0)∧((((IntKind.i64.wrap ((Int.ofNat fp.len)+(Int.ofNat fl.len))) - 0).toNat * 24)≤140737488355328∧((IntKind.i64.wrap ((Int.ofNat fp.len)+(Int.ofNat fl.len))) - 0).toNat≤4611686018427387904))∧(((0:Int)≤(0:Int)∧0≤(List.replicate ((IntKind.i64.wrap ((Int.ofNat fp.len)+(Int.ofNat fl.len))) - 0).toNat (LD.t [(LD.s (bzz [])),(LD.b false)])).length)∧((((0+fp.es.length) * 24)≤140737488355328∧(0+fp.es.length)≤4611686018427387904)∧((((([]++fp.es).length+fl.es.length) * 24)≤140737488355328∧(([]++fp.es).length+fl.es.length)≤4611686018427387904)∧Ks 0 [.t (([]++fp.es)++fl.es)])))) else (((fp.es.length * 24)≤140737488355328∧fp.es.length≤4611686018427387904)∧((((fp.es.length+fl.es.length) * 24)≤140737488355328∧(fp.es.length+fl.es.length)≤4611686018427387904)∧Ks 0 [.t (fp.es++fl.es)])))))):=kx
theorem QuG (fn:Str)(fp fl fb:LD)(Ks:KN)(q Q2 ql_3:QF):QlM fn fp fl fb Ks q Q2 ql_3=(Q2 [.s fn,fp,fl,fb] [apK [.r 9] fun (z8:List LD)=>(ql_3 [.n (Int.ofNat z8.length),.n (0:Int),.t z8,.t []] [apK [.r 9,.r 25] fun (z9 aa:List LD)=>(Ks 0 [.t aa]:Prop)]:Prop)]):=kx
theorem Qrk (n i:Int)(w kn:List LD)(R:LP)(Ks:KN)(q Q2:QF):Qi3 n i w kn R Ks q Q2=((bif (decide (i<n)) then (((decide (0≤i))&&(decide (i<(Int.ofNat w.length))))=true∧(bif ((w.getD i.toNat .nul).f 1).bo then (kn.length<9223372036854775807∧R [.n n,.n (IntKind.i64.wrap (i+1)),.t w,.t (upE ((w.getD i.toNat .nul).f 0).st (LD.t [(LD.s ((w.getD i.toNat .nul).f 0).st),(LD.n (2:Int))]) kn)]) else (kn.length<9223372036854775807∧R [.n n,.n (IntKind.i64.wrap (i+1)),.t w,.t (upE ((w.getD i.toNat .nul).f 0).st (LD.t [(LD.s ((w.getD i.toNat .nul).f 0).st),(LD.n (1:Int))]) kn)]))) else Ks 0 [.t w,.t kn])):=kx
theorem Qrl (fn:Str)(fp fl fb:LD)(Ks:KN)(q Qal:QF):Qi4 fn fp fl fb Ks q Qal=(Qal [.s fn,fp,fl,fb] [apK [.r 25] fun (z7:List LD)=>(Ks 0 [.t z7,.t []]:Prop)]):=kx
theorem Qo3 (l:LD)(kn fd:List LD)(Ks:KN)(q Qs ql_2:QF):Qhz l kn fd Ks q Qs ql_2=(ql_2 [l,.n (Int.ofNat l.len),.n (0:Int),.t kn,.t fd] [apK [.r 25,.r 26] fun (z7 z8:List LD)=>(Ks 0 [.b true,.t z7,.t z8]:Prop),apK K0Nt fun (z7:Bool) (z8 z9:List LD)=>(Ks 0 [.b z7,.t z8,.t z9]:Prop)]):=kx
theorem Qne (l:LD)(n i:Int)(kn fd:List LD)(R:LP)(Ks:KN)(q Qs:QF):Qge l n i kn fd R Ks q Qs=(((fun (C1:Bool→(List LD)→(List LD)→Prop)=>(((fun (C2:Prop)=>(((fun (C3:Prop)=>((bif (decide (i<n)) then (((decide (0≤i))&&(decide (i<(Int.ofNat l.len))))=true∧(bif (decide (((l.at 10 i).f 0).i=8)) then ((∀e9:LD,(QU ((l.at 10 i).f 2).st kn=some e9→(bif (decide ((e9.f 1).i=0)) then C2 else C3)))∧(QU ((l.at 10 i).f 2).st kn=none→C2)) else C3)) else Ks 0 [.t kn,.t fd]):Prop)) ((Qs [((l.at 10 i).f 7),.t kn,.t fd] [apK K0Nt fun (aa:Bool) (ab ac:List LD)=>C1 aa ab ac]:Prop))):Prop)) (((fd.length<9223372036854775807∧Qs [((l.at 10 i).f 7),.t kn,.t (upE ((l.at 10 i).f 2).st (LD.t [(LD.s ((l.at 10 i).f 2).st)]) fd)] [apK K0Nt fun (aa:Bool) (ab ac:List LD)=>C1 aa ab ac]):Prop))):Prop)) (fun (aa:Bool) (ab ac:List LD)=>(((bif aa then Qs [((l.at 10 i).f 8),.t ab,.t ac] [apK K0Nt fun (ad:Bool) (ae af:List LD)=>((bif ad then R [l,.n n,.n (IntKind.i64.wrap (i+1)),.t ae,.t af] else Ks 1 [.b false,.t ae,.t af]):Prop)] else Ks 1 [.b false,.t ab,.t ac]):Prop):Prop)))):=kx
theorem QAG (fn:Str)(fp fl fb:LD)(Ks:KN)(q Q9 Qs QO:QF):QqS fn fp fl fb Ks q Q9 Qs QO=(Q9 [.s fn,fp,fl,fb] [apK [.r 25,.r 26] fun (z9 aa:List LD)=>(Qs [fb,.t z9,.t aa] [apK K0Nt fun (ab:Bool) (ac ad:List LD)=>((bif ab then QO [.t ac,.t ad] [apK [.r 25,.r 26,.r 1] fun (ae af ag:List LD)=>(Ks 0 [.t ag]:Prop)] else QO [.t ac,.t ad] [apK [.r 25,.r 26,.r 1] fun (ae af ag:List LD)=>(Ks 0 [.t ag]:Prop)]):Prop)]:Prop)]):=kx
def QkI:Nat:=2097144
def Qou:List (Nat×RP):=(nf [0,1])
def QAL:FC:=cdF tp Qou QkI Tryz.f134
def Qqs:FFn:=.f 1 QkI 5 [.t 2] (evC QAL)
def Qmn:Nat:=504
def Qql:List (Nat×RP):=(nf [0,1])
def QCU:FC:=cdF tp Qql Qmn Tryz.f135
def Qr5:FFn:=.f 1 Qmn 4 [.t 2] (evC QCU)
def Qf4:Nat:=64960
def Qjt:List (Nat×RP):=(nf [0,1,4,5,3,6])
def QFq:FC:=cdF tp Qjt Qf4 Tryz.f136
def Qxw:FFn:=.f 2 Qf4 5 [.t 4] (evC QFq)
def Qe9:Nat:=130528
def QhO:List (Nat×RP):=(nf [0,1,2,5,6,4,7])
def QDD:FC:=cdF tp QhO Qe9 Tryz.f137
def Qu7:FFn:=.f 1 Qe9 5 [.t 2] (evC QDD)
def QdJ:Nat:=1048288
def Qf2:List (Nat×RP):=(nf [0,1,2,5,4,6])
def QAK:FC:=cdF tp Qf2 QdJ Tryz.f90
def Qqr:FFn:=.f 1 QdJ 5 [.t 2] (evC QAK)
def Qai:Nat:=862507668665045899863744609101235604371175518973213317242903684952064
def QaX:List (Nat×RP):=(nf [0,1,3,6,7,15,16,17,19,20,22,23,24,27,28,30,31,32,33,34,36,8,9,10,11,13,14])
def QAM:FC:=cdF tp QaX Qai Tryz.f84
def Qqt:FFn:=.f 1 Qai 8 [.t 2,.t 3,.t 4] (evC QAM)
def QfL:Nat:=17591649173232
def QiK:List (Nat×RP):=([pq 3 9 [0,3,6,9,12,15,18,21,24],pq 4 14 [0,3,6,9,12,15,18,21,24,27,30,33,36,39]]++nf [0,1,2])
def QsW:FC:=cdF tp QiK QfL Tryz.f88
def Qj5:FFn:=.f 2 QfL 6 [] (evC QsW)
def QgX:Nat:=2251799813685216
def Qk0:List (Nat×RP):=([pq 1 46 [0,3,6,9,12,15,18,21,24,27,30,33,36,39,42,45,48,51,54,57,60,63,66,69,72,75,78,81,84,87,90,93,96,99,102,105,108,111,114,117,120,123,126,129,132,135]]++nf [0])
def Qwt:FC:=cdF tp Qk0 QgX Tryz.f92
def Qmv:FFn:=.f 2 QgX 6 [.t 4] (evC Qwt)
def QfG:Nat:=32608
def QiF:List (Nat×RP):=(nf [0,1,2,3,4])
def QsQ:FC:=cdF tp QiF QfG Tryz.f85
def QjZ:FFn:=.f 2 QfG 4 [.t 4] (evC QsQ)
def QfF:Nat:=880
def QiE:List (Nat×RP):=(nf [0,1])
def QsP:FC:=cdF tp QiE QfF Tryz.f86
def QjY:FFn:=.f 2 QfF 4 [] (evC QsP)
def Qfj:Nat:=562949953421304
def QhQ:List (Nat×RP):=([pq 1 46 [0,3,6,9,12,15,18,21,24,27,30,33,36,39,42,45,48,51,54,57,60,63,66,69,72,75,78,81,84,87,90,93,96,99,102,105,108,111,114,117,120,123,126,131,132,135]]++nf [0])
def Qro:FC:=cdF tp QhQ Qfj Tryz.f87
def QiR:FFn:=.f 1 Qfj 6 [.t 2] (evC Qro)
def QfJ:Nat:=134217688
def QiI:List (Nat×RP):=([pq 5 12 [0,3,6,9,12,15,18,21,24,27,30,33]]++nf [0,1,2,3,4])
def QsU:FC:=cdF tp QiI QfJ Tryz.f89
def Qj3:FFn:=.f 1 QfJ 5 [.t 2] (evC QsU)
def QfI:Nat:=4190072
def QiH:List (Nat×RP):=(nf [0,1,2,3,4,5,6])
def QsT:FC:=cdF tp QiH QfI Tryz.f93
def Qj2:FFn:=.f 1 QfI 5 [.t 2] (evC QsT)
def QgW:Nat:=659421701033771992947302413031702368
def QkZ:List (Nat×RP):=([pq 2 17 [0,3,6,9,12,15,18,21,24,27,30,33,36,39,42,45,48],pq 19 12 [0,3,6,9,12,15,18,21,24,27,30,33],pq 21 15 [0,3,6,9,12,15,18,21,24,27,30,33,38,39,44]]++nf [0,3,4,5,6,7,8,9,10,11,12,13,14,15,16,17,20,22,23,1])
def Qws:FC:=cdF tp QkZ QgW Tryz.f233
def Qmu:FFn:=.f 1 QgW 7 [.t 2] (evC Qws)
def Qb0:Nat:=68718876640
def Qdw:List (Nat×RP):=(nf [0,1,3,5,6,7,8,9,10,4,11,13])
def QsS:FC:=cdF tp Qdw Qb0 Tryz.f204
def Qj1:FFn:=.f 1 Qb0 6 [.t 2] (evC QsS)
def Qcn:Nat:=4294891488
def QdV:List (Nat×RP):=(nf [0,1,3,4,5,6,7,8,9])
def QuP:FC:=cdF tp QdV Qcn Tryz.f166
def Qlf:FFn:=.f 1 Qcn 6 [.t 2] (evC QuP)
def Qco:Nat:=382748279273377427008770787697804524670032512370588672
def QdW:List (Nat×RP):=([pq 16 59 [0,5,6,9,12,15,18,21,24,27,30,33,36,39,42,45,48,51,54,57,60,63,66,69,72,75,78,81,84,87,90,93,96,99,102,105,108,111,114,117,120,123,126,129,132,135,138,141,144,147,150,153,156,159,162,165,168,171,174],pq 17 13 [0,3,6,9,12,15,18,21,24,27,30,33,38],pq 18 12 [0,3,6,9,12,15,18,21,24,27,30,33]]++nf [0,1,2,3,4,5,6,8,9,10,11,13,14,15,19,20,21,22,23,24,27,28,26,29,30])
def QuQ:FC:=cdF tp QdW Qco Tryz.f234
def Qlg:FFn:=.f 1 Qco 8 [.t 2] (evC QuQ)
def Qcp:Nat:=16240
def QdX:List (Nat×RP):=(nf [0,1,3,4])
def QuR:FC:=cdF tp QdX Qcp Tryz.f205
def Qlh:FFn:=.f 1 Qcp 4 [.t 2] (evC QuR)
def Qb1:Nat:=16240
def Qdx:List (Nat×RP):=(nf [0,1,3,4])
def QsX:FC:=cdF tp Qdx Qb1 Tryz.f167
def Qj6:FFn:=.f 1 Qb1 4 [.t 2] (evC QsX)
def Qb2:Nat:=3931088
def Qdy:List (Nat×RP):=(nf [0,1,2,3,5,6,7,8,9])
def QsY:FC:=cdF tp Qdy Qb2 Tryz.f169
def Qj7:FFn:=.f 1 Qb2 5 [.t 2] (evC QsY)
def Qfk:Nat:=536868784
def QhR:List (Nat×RP):=(nf [0,1,2,3,4,5,6,8,9])
def Qrp:FC:=cdF tp QhR Qfk Tryz.f168
def QiS:FFn:=.f 1 Qfk 5 [.t 2] (evC Qrp)
def QbC:Nat:=4286570480
def Qc2:List (Nat×RP):=([pq 3 9 [0,3,6,9,12,15,18,21,24]]++nf [0,1,4,5,6,7])
def Qrn:FC:=cdF tp Qc2 QbC Tryz.f94
def QiQ:FFn:=.f 1 QbC 6 [.t 2] (evC Qrn)
def Qfi:Nat:=22300745198530613238015403989605062264221680
def QhP:List (Nat×RP):=([pq 7 30 [0,5,6,9,12,15,18,21,24,27,30,33,36,39,42,45,48,51,54,57,60,63,66,69,72,75,78,81,84,87],pq 12 30 [0,5,6,9,12,15,18,21,24,27,30,33,36,39,42,45,48,51,54,57,60,63,66,69,72,75,78,81,84,87]]++nf [1,2,3,4,5,6,8,9,10,11,13,14,15,0])
def Qrm:FC:=cdF tp QhP Qfi Tryz.f170
def QiP:FFn:=.f 2 Qfi 8 [] (evC Qrm)
def QfH:Nat:=91340977627743083078064071941943272267906547648
def QiG:List (Nat×RP):=(nf [0,1,2,3,4,5,6,18,19,21,22,23,24,25,26,27,28,29,30,31,32,33,34,35,36,37,38,39,7,11,12,13,14,15,16,17,8,9,10,40,41])
def QsR:FC:=cdF tp QiG QfH Tryz.f138
def Qj0:FFn:=.f 1 QfH 8 [.c 2 10 true] (evC QsR)
def QfK:Nat:=134151680
def QiJ:List (Nat×RP):=(nf [0,1,2,3,4])
def QsV:FC:=cdF tp QiJ QfK Tryz.f91
def Qj4:FFn:=.f 4 QfK 5 [.t 8] (evC QsV)
def QcG:Nat:=340114915347250705827332174642058885120
def Qep:List (Nat×RP):=([pq 11 7 [0,3,6,9,14,17,18],pq 23 16 [0,3,6,9,12,15,18,21,24,27,30,33,36,39,42,45],pq 26 11 [0,3,6,9,12,15,18,21,24,29,30]]++nf [0,2,3,4,5,6,7,8,12,13,14,15,16,18,19,20,21,22,24,25,27])
def QDE:FC:=cdF tp Qep QcG Tryz.f37
def Qu8:FFn:=.f 1 QcG 8 [.c 2 4 true,.t 3,.t 4] (evC QDE)
def Qde:Nat:=93490432862830420392378108266946986211754732675072
def Qfs:List (Nat×RP):=([pq 6 16 [0,3,6,9,12,15,18,21,24,27,30,33,36,39,42,45],pq 18 30 [0,3,6,9,12,15,18,21,24,27,30,33,36,39,42,45,48,51,54,57,60,63,66,69,72,75,78,81,84,87],pq 19 12 [0,3,6,9,12,15,18,21,24,27,30,35],pq 30 11 [0,3,6,9,12,15,18,21,24,29,30]]++nf [0,2,3,4,5,7,8,9,10,11,12,13,14,15,16,20,21,22,23,24,25,26,27,28,29,31])
def Qzd:FC:=cdF tp Qfs Qde Tryz.f35
def QoO:FFn:=.f 1 Qde 8 [.c 2 2 true,.t 3,.t 4] (evC Qzd)
def QqG:FC:=cdL tp Qjt Qf4 2 Tryz.f136
def QoY:FC:=cdL tp QhO Qe9 3 Tryz.f137
def QmB:FC:=cdL tp Qf2 QdJ 3 Tryz.f90
def QmC:FC:=cdL tp QaX Qai 5 Tryz.f84
def Qlr:FC:=cdL tp QaX Qai 18 Tryz.f84
def Qlq:FC:=cdL tp QaX Qai 21 Tryz.f84
def Qlp:FC:=cdL tp QaX Qai 29 Tryz.f84
def Qhp:FC:=cdL tp Qdw Qb0 2 Tryz.f204
def Qia:FC:=cdL tp QdV Qcn 2 Tryz.f166
def Qhq:FC:=cdL tp QdW Qco 25 Tryz.f234
def Qib:FC:=cdL tp QdX Qcp 2 Tryz.f205
def Qhr:FC:=cdL tp Qdx Qb1 2 Tryz.f167
def Qhs:FC:=cdL tp Qdy Qb2 4 Tryz.f169
def QgC:FC:=cdL tp Qc2 QbC 2 Tryz.f94
def QnN:FC:=cdL tp Qep QcG 10 Tryz.f37
def QnM:FC:=cdL tp Qep QcG 17 Tryz.f37
def Qls:FC:=cdL tp Qfs Qde 6 Tryz.f35
end Go.Proofs.YtmdppkbekmpopaaGreat
